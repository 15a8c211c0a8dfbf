/- Texts put together by a program: RngP RngG Law LawS. -/
import Derived.Test.YtnimcchalinihaaDoorMf
import Derived.Test.YtnimcchalinihaaDoorRecs
import Derived.ProofKit
import Derived.Carry
import Derived.LaidMore
import Derived.OpenShut
import Derived.Stop.Joined
import Derived.SizedLaws
import Derived.Handed
import Derived.Shelf.Vars
/- What a script of a ring without keys answers, by the sets' versions, ends and openness alone: in plain Lean. -/
namespace Sg
abbrev Key := Int × Int × Bool
def Rg.key (s : Rg) : Key := (s.ver, s.till, s.op)
structure Kr where
  begun : Bool
  clock : Int
  last : Int
  sets : List Key
  deriving DecidableEq
def Rn.keys (r : Rn) : Kr := ⟨r.begun, r.clock, r.last, r.sets.map Rg.key⟩
def liveK (now : Int) (k : Key) : Bool := k.2.2 || decide (now < k.2.1)
def staysK (now u : Int) (k : Key) : Bool := if k.2.2 then decide (now < u) else decide (now < k.2.1)
def closeK (u : Int) (k : Key) : Key := if k.2.2 then (k.1, u, false) else k
def findK (v ck : Int) : List Key → Nat → Option Nat
  | [], _ => none
  | k :: l, i => if k.1 = v ∧ liveK ck k = true then some i else findK v ck l (i + 1)
def Kr.back (k : Kr) (now : Int) : Bool := k.begun && decide (now < k.clock)
def rotK (k : Kr) (now g : Int) : Int × Kr :=
  if k.back now = true then (162, k) else
  if 8 < 1 + (k.sets.filter (staysK now (endI now g))).length then (161, k) else
  (0, ⟨true, now, k.last + 1, (k.last + 1, 0, true) :: (k.sets.map (closeK (endI now g))).filter (liveK now)⟩)
def versK (k : Kr) (now : Int) : List Int := (k.sets.filter (liveK (if k.back now then k.clock else now))).map (·.1)
def dropK (k : Kr) (v : Int) : Int × Kr := match findK v k.clock k.sets 0 with
  | none => (170, k)
  | some i => (0, { k with sets := k.sets.eraseIdx i })
theorem key_close (u : Int) (s : Rg) : (s.close u).key = closeK u s.key := by
  obtain ⟨b, mb, v, t, o⟩ := s
  cases o <;> rfl
theorem keys_count (r : Rn) (now u : Int) : r.count now u = 1 + (r.keys.sets.filter (staysK now u)).length := by
  unfold Rn.count Rn.keys
  rw [List.filter_map, List.length_map]
  rfl
theorem keys_rot (r : Rn) (now u : Int) (b mb : Nat) : (r.rot now u b mb).keys = ⟨true, now, r.last + 1, (r.last + 1, 0, true) :: (r.keys.sets.map (closeK u)).filter (liveK now)⟩ := by
  unfold Rn.rot Rn.keys
  dsimp only
  congr 1
  rw [List.map_cons]
  congr 1
  rw [show (r.sets.map Rg.key).map (closeK u) = (r.sets.map (Rg.close u)).map Rg.key by
    rw [List.map_map, List.map_map]
    exact List.map_congr_left fun s _ => (key_close u s).symm]
  generalize r.sets.map (Rg.close u) = L
  rw [List.filter_map]
  rfl
theorem keys_vers (r : Rn) (now : Int) : r.vers now = versK r.keys now := by
  unfold Rn.vers versK Rn.keys
  dsimp only
  rw [List.filter_map, List.map_map]
  rfl
theorem keys_erase (l : List Rg) (i : Nat) : (l.eraseIdx i).map Rg.key = (l.map Rg.key).eraseIdx i := by
  induction l generalizing i with
  | nil => rfl
  | cons s l ih =>
    cases i with
    | zero => rfl
    | succ i => rw [List.eraseIdx_cons_succ, List.map_cons, ih, List.map_cons, List.eraseIdx_cons_succ]
/-- The closed sets of n Rotates, and the ring behind n+1 of them at one clock. -/
def restK (e : Int) : Nat → List Key
  | 0 => []
  | n + 1 => ((n : Int) + 1, e, false) :: restK e n
def fullK (e now : Int) : Nat → Kr
  | 0 => ⟨false, 0, 0, []⟩
  | n + 1 => ⟨true, now, (n : Int) + 1, ((n : Int) + 1, 0, true) :: restK e n⟩
section
variable {e now g : Int}
theorem rest_len : ∀ n, (restK e n).length = n
  | 0 => rfl
  | n + 1 => by rw [restK, List.length_cons, rest_len]
theorem rest_close (u : Int) : ∀ n, (restK e n).map (closeK u) = restK e n
  | 0 => rfl
  | n + 1 => by rw [restK, List.map_cons, rest_close u n]; rfl
theorem rest_live (h : now < e) : ∀ n, (restK e n).filter (liveK now) = restK e n
  | 0 => rfl
  | n + 1 => by rw [restK, List.filter_cons_of_pos (by simp [liveK, h]), rest_live h n]
theorem rest_stays (u : Int) (h : now < e) : ∀ n, (restK e n).filter (staysK now u) = restK e n
  | 0 => rfl
  | n + 1 => by rw [restK, List.filter_cons_of_pos (by simp [staysK, h]), rest_stays u h n]
theorem rest_dead (h : ¬ now < e) : ∀ n, (restK e n).filter (liveK now) = []
  | 0 => rfl
  | n + 1 => by rw [restK, List.filter_cons_of_neg (by simp [liveK]; omega), rest_dead h n]
theorem rest_gone (u : Int) (h : ¬ now < e) : ∀ n, (restK e n).filter (staysK now u) = []
  | 0 => rfl
  | n + 1 => by rw [restK, List.filter_cons_of_neg (by simp [staysK]; omega), rest_gone u h n]
theorem endI_sum (h : now ≤ 4611686018427387904) (hg : 0 ≤ g ∧ g ≤ 4294967296) : endI now g = now + g := by
  unfold endI
  rw [if_neg (by omega)]
theorem endI_sum' (h : now ≤ 4611686022722355200) (hg : 0 ≤ g ∧ g ≤ 4294967296) : endI now g = now + g := by
  unfold endI
  rw [if_neg (by omega)]
theorem rotK_go {k : Kr} {u : Int} {c L : List Key} (hb : k.back now = false) (hu : endI now g = u) (hc : k.sets.filter (staysK now u) = c) (h8 : ¬ 8 < 1 + c.length) (hL : (k.sets.map (closeK u)).filter (liveK now) = L) : rotK k now g = (0, ⟨true, now, k.last + 1, (k.last + 1, 0, true) :: L⟩) := by
  subst hu hc hL
  unfold rotK
  rw [if_neg (by rw [hb]; simp), if_neg h8]
theorem rotK_full {k : Kr} {u : Int} {c : List Key} (hb : k.back now = false) (hu : endI now g = u) (hc : k.sets.filter (staysK now u) = c) (h8 : 8 < 1 + c.length) : rotK k now g = (161, k) := by
  subst hu hc
  unfold rotK
  rw [if_neg (by rw [hb]; simp), if_pos h8]
theorem versK_of {k : Kr} {L : List Key} (hb : k.back now = false) (hL : k.sets.filter (liveK now) = L) : versK k now = L.map (·.1) := by
  subst hL
  unfold versK
  rw [hb]
  rfl
theorem back_no {ck la : Int} {l : List Key} (h : ck ≤ now) : (Kr.mk true ck la l).back now = false := by
  unfold Kr.back
  simp only [Bool.true_and]
  exact decide_eq_false (by omega)
theorem rot_go (hn : now ≤ 4611686018427387904) (hg : 1 ≤ g ∧ g ≤ 4294967296) (j : Nat) (hj : j < 8) : rotK (fullK (now + g) now j) now g = (0, fullK (now + g) now (j + 1)) := by
  cases j with
  | zero => rfl
  | succ n =>
    rw [fullK]
    refine (rotK_go (u := now + g) (c := ((n : Int) + 1, 0, true) :: restK (now + g) n) (L := restK (now + g) (n + 1)) (back_no (Int.le_refl _)) (endI_sum hn ⟨by omega, hg.2⟩) ?_ ?_ ?_).trans ?_
    · rw [List.filter_cons_of_pos (by simp [staysK]; omega), rest_stays _ (by omega)]
    · rw [List.length_cons, rest_len]; omega
    · rw [List.map_cons, rest_close, List.filter_cons_of_pos (by simp [liveK, closeK]; omega), rest_live (by omega)]; rfl
    · rw [fullK]
      simp
theorem full_eight (e : Int) : fullK e now 8 = ⟨true, now, 8, (8, 0, true) :: restK e 7⟩ := rfl
theorem rot_stop (hn : now ≤ 4611686018427387904) (hg : 1 ≤ g ∧ g ≤ 4294967296) : rotK (fullK (now + g) now 8) now g = (161, fullK (now + g) now 8) := by
  rw [full_eight]
  refine rotK_full (u := now + g) (c := (8, 0, true) :: restK (now + g) 7) (back_no (Int.le_refl _)) (endI_sum hn ⟨by omega, hg.2⟩) ?_ ?_
  · rw [List.filter_cons_of_pos (by simp [staysK]; omega), rest_stays _ (by omega)]
  · rw [List.length_cons, rest_len]; omega
theorem vers_eight (hg : 1 ≤ g ∧ g ≤ 4294967296) : versK (fullK (now + g) now 8) now = [8, 7, 6, 5, 4, 3, 2, 1] := by
  rw [full_eight, versK_of (L := (8, 0, true) :: restK (now + g) 7) (back_no (Int.le_refl _)) (by rw [List.filter_cons_of_pos (by simp [liveK]), rest_live (by omega)])]
  rfl
/-- Behind the grace but the newest one is left. -/
theorem vers_one (hg : 1 ≤ g ∧ g ≤ 4294967296) : versK (fullK (now + g) now 8) (now + g) = [8] := by
  rw [full_eight, versK_of (L := [(8, 0, true)]) (back_no (by omega)) (by rw [List.filter_cons_of_pos (by simp [liveK]), rest_dead (by omega)])]
  rfl
theorem rot_late (hn : now ≤ 4611686018427387904) (hg : 1 ≤ g ∧ g ≤ 4294967296) : rotK (fullK (now + g) now 8) (now + g - 1) 0 = (0, ⟨true, now + g - 1, 9, (9, 0, true) :: restK (now + g) 7⟩) := by
  refine rotK_go (u := now + g - 1) (c := restK (now + g) 7) (L := restK (now + g) 7) (back_no (by omega)) ?_ ?_ ?_ ?_
  · rw [endI_sum' (by omega) ⟨by omega, by omega⟩, Int.add_zero]
  · rw [full_eight, List.filter_cons_of_neg (by simp [staysK]), rest_stays _ (by omega)]
  · rw [rest_len]; omega
  · rw [full_eight, List.map_cons, rest_close, List.filter_cons_of_neg (by simp [liveK, closeK]), rest_live (by omega)]
theorem vers_late : versK ⟨true, now + g - 1, 9, (9, 0, true) :: restK (now + g) 7⟩ (now + g - 1) = [9, 7, 6, 5, 4, 3, 2, 1] := by
  rw [versK_of (L := (9, 0, true) :: restK (now + g) 7) (back_no (Int.le_refl _)) (by rw [List.filter_cons_of_pos (by simp [liveK]), rest_live (by omega)])]
  rfl
theorem rot_last (hn : now ≤ 4611686018427387904) (hg : 1 ≤ g ∧ g ≤ 4294967296) : rotK ⟨true, now + g - 1, 9, (9, 0, true) :: restK (now + g) 7⟩ (now + g) 0 = (0, ⟨true, now + g, 10, [(10, 0, true)]⟩) := by
  refine rotK_go (u := now + g) (c := []) (L := []) (back_no (by omega)) ?_ ?_ ?_ ?_
  · rw [endI_sum' (by omega) ⟨by omega, by omega⟩, Int.add_zero]
  · rw [List.filter_cons_of_neg (by simp [staysK]), rest_gone _ (by omega)]
  · decide
  · rw [List.map_cons, rest_close, List.filter_cons_of_neg (by simp [liveK, closeK]), rest_dead (by omega)]
theorem all_pass (hg : 1 ≤ g ∧ g ≤ 4294967296) {l : List Key} (h : ∀ k ∈ l, k.2.2 = true ∨ k.2.1 = now + g) : l.filter (staysK now (now + g)) = l ∧ l.filter (liveK now) = l ∧ (∀ k ∈ l.map (closeK (now + g)), k.2.2 = true ∨ k.2.1 = now + g) := by
  refine ⟨List.filter_eq_self.2 fun k hk => ?_, List.filter_eq_self.2 fun k hk => ?_, fun k hk => ?_⟩
  · obtain ⟨v, t, o⟩ := k
    rcases h _ hk with h1 | h1 <;> simp only at h1 <;> subst h1 <;> simp [staysK] <;> omega
  · obtain ⟨v, t, o⟩ := k
    rcases h _ hk with h1 | h1 <;> simp only at h1 <;> subst h1 <;> simp [liveK] <;> omega
  · obtain ⟨⟨v, t, o⟩, hm, rfl⟩ := List.mem_map.1 hk
    cases o with
    | true => exact .inr rfl
    | false => exact h _ hm
/-- A version let go makes room for one, not for two. -/
theorem drop_room (hn : now ≤ 4611686018427387904) (hg : 1 ≤ g ∧ g ≤ 4294967296) {d : Int} (hd : 1 ≤ d ∧ d ≤ 8) : ∃ l l' : List Key, ∃ v : List Int, dropK (fullK (now + g) now 8) d = (0, ⟨true, now, 8, l⟩) ∧ l.length = 7 ∧ dropK ⟨true, now, 8, l⟩ d = (170, ⟨true, now, 8, l⟩) ∧
    rotK ⟨true, now, 8, l⟩ now g = (0, ⟨true, now, 9, l'⟩) ∧ l'.length = 8 ∧ rotK ⟨true, now, 9, l'⟩ now g = (161, ⟨true, now, 9, l'⟩) ∧ versK ⟨true, now, 9, l'⟩ now = 9 :: v ∧ v.length = 7 := by
  have h1 : now < now + g := by omega
  have h2 : endI now g = now + g := endI_sum hn ⟨by omega, hg.2⟩
  obtain ⟨L, hL⟩ : ∃ L : List Key, L = [(8, 0, true), (7, now + g, false), (6, now + g, false), (5, now + g, false), (4, now + g, false), (3, now + g, false), (2, now + g, false), (1, now + g, false)] := ⟨_, rfl⟩
  have hf : (fullK (now + g) now 8) = ⟨true, now, 8, L⟩ := by rw [hL]; rfl
  have hall : ∀ k ∈ L, k.2.2 = true ∨ k.2.1 = now + g := by rw [hL]; simp
  have hfind : ∃ i, i < 8 ∧ findK d now L 0 = some i ∧ findK d now (L.eraseIdx i) 0 = none := by
    have hc : d = 1 ∨ d = 2 ∨ d = 3 ∨ d = 4 ∨ d = 5 ∨ d = 6 ∨ d = 7 ∨ d = 8 := by omega
    rcases hc with rfl | rfl | rfl | rfl | rfl | rfl | rfl | rfl
    · exact ⟨7, by omega, by simp [hL, findK, liveK, h1], by simp [hL, findK, List.eraseIdx]⟩
    · exact ⟨6, by omega, by simp [hL, findK, liveK, h1], by simp [hL, findK, List.eraseIdx]⟩
    · exact ⟨5, by omega, by simp [hL, findK, liveK, h1], by simp [hL, findK, List.eraseIdx]⟩
    · exact ⟨4, by omega, by simp [hL, findK, liveK, h1], by simp [hL, findK, List.eraseIdx]⟩
    · exact ⟨3, by omega, by simp [hL, findK, liveK, h1], by simp [hL, findK, List.eraseIdx]⟩
    · exact ⟨2, by omega, by simp [hL, findK, liveK, h1], by simp [hL, findK, List.eraseIdx]⟩
    · exact ⟨1, by omega, by simp [hL, findK, liveK, h1], by simp [hL, findK, List.eraseIdx]⟩
    · exact ⟨0, by omega, by simp [hL, findK, liveK], by simp [hL, findK]⟩
  obtain ⟨i, hi, f1, f2⟩ := hfind
  have hLl : L.length = 8 := by rw [hL]; rfl
  have hl : (L.eraseIdx i).length = 7 := by rw [List.length_eraseIdx_of_lt (by omega), hLl]
  have ha : ∀ k ∈ L.eraseIdx i, k.2.2 = true ∨ k.2.1 = now + g := fun k hk => hall k (List.mem_of_mem_eraseIdx hk)
  obtain ⟨a1, a2, a3⟩ := all_pass hg ha
  obtain ⟨b1, b2, b3⟩ := all_pass hg a3
  have hc : ∀ k ∈ (9, 0, true) :: (L.eraseIdx i).map (closeK (now + g)), k.2.2 = true ∨ k.2.1 = now + g := fun k hk => by
    rcases List.mem_cons.1 hk with rfl | hk
    · exact .inl rfl
    · exact a3 k hk
  obtain ⟨c1, c2, -⟩ := all_pass hg hc
  refine ⟨L.eraseIdx i, (9, 0, true) :: (L.eraseIdx i).map (closeK (now + g)), _, ?_, hl, ?_, rotK_go (back_no (Int.le_refl _)) h2 a1 (by rw [hl]; omega) b2, ?_, rotK_full (back_no (Int.le_refl _)) h2 c1 ?_, versK_of (back_no (Int.le_refl _)) c2, ?_⟩
  · rw [hf]; unfold dropK; dsimp only; rw [f1]
  · unfold dropK; dsimp only; rw [f2]
  · rw [List.length_cons, List.length_map, hl]
  · rw [List.length_cons, List.length_map, hl]; omega
  · rw [List.length_map, List.length_map, hl]
end
end Sg
/- The law of RingFull: walked. -/
namespace Go.Proofs.YtnimcchalinihaaDoor
open Sg Go.IntWalk
set_option maxRecDepth 100000
set_option maxHeartbeats 4000000
section
variable {F : World} {M : List Nat} {H : List Res} {p : Nat} {r : Rn} {a : Option Addr} {cp : Nat} {now g v z : Int} {k k' : Kr} {L : List Int} {n : Nat}
theorem keys_len : r.keys.sets.length = r.sets.length := List.length_map ..
theorem rot_k (hT : Tabs F M) (hk : r.keys = k) (hz : rotK k now g = (z, k')) (hl : k.sets.length ≤ 100) (hla : -9223372036854775808 ≤ k.last ∧ k.last < 9223372036854775807) (hn : -9223372036854775808 ≤ now ∧ now ≤ 9223372036854775807) (hg : 0 ≤ g ∧ g ≤ 4294967296) :
    Meets Tryd.prog 12 [.pointer (some ⟨p, 0, none⟩), sV noneT, .int .i64 now, .int .i64 g] F M (rnR p 0 r a cp H) (fun e H' => ∃ r' a' cp', r'.keys = k' ∧ e = .returned (.int .i64 z) ∧ H' = rnR p 0 r' a' cp' H) := by
  have hz1 : k' = (rotK k now g).2 := by rw [hz]
  have hz2 : z = (rotK k now g).1 := by rw [hz]
  rw [hz1, hz2]
  clear hz hz1 hz2
  subst hk
  refine (rotate_spec hT (by rw [← keys_len]; exact hl) hla hn hg).mono ?_
  intro e H' h
  unfold RotP at h
  unfold rotK
  by_cases h1 : r.back now = true
  · rw [if_pos h1] at h
    rw [if_pos (show r.keys.back now = true from h1)]
    exact ⟨r, a, cp, rfl, h.1, h.2⟩
  · rw [if_neg h1] at h
    rw [if_neg (show ¬ r.keys.back now = true from h1)]
    rw [keys_count] at h
    by_cases h2 : 8 < 1 + (r.keys.sets.filter (staysK now (endI now g))).length
    · rw [if_pos h2] at h ⊢
      exact ⟨r, a, cp, rfl, h.1, h.2⟩
    · rw [if_neg h2] at h ⊢
      obtain ⟨b, mb, a', cp', h3, h4⟩ := h
      exact ⟨_, a', cp', keys_rot r now _ b mb, h3, h4⟩
theorem vers_k (hk : r.keys = k) (hv : versK k now = L) (hn : L.length = n) (hl : k.sets.length ≤ 100) : Meets Tryd.prog 13 [.pointer (some ⟨p, 0, none⟩), .int .i64 now] F M (rnR p 0 r a cp H)
    (fun e H' => ∃ va vc, e = .returned (.slice va n vc) ∧ H' = .row va vc 2 1 n (L.map (.int .i64)) :: rnR p 0 r a cp H) := by
  subst hn hv hk
  rw [← keys_vers]
  exact versions_spec (by rw [← keys_len]; exact hl)
theorem find_k (v ck : Int) : ∀ (l : List Rg) (i : Nat), findV v ck l i = findK v ck (l.map Rg.key) i
  | [], _ => rfl
  | s :: l, i => by
    rw [findV, List.map_cons, findK, find_k v ck l]
    rfl
theorem drop_k (hk : r.keys = k) (hz : dropK k v = (z, k')) (hl : k.sets.length ≤ 100) : Meets Tryd.prog 14 [.pointer (some ⟨p, 0, none⟩), .int .i64 v] F M (rnR p 0 r a cp H)
    (fun e H' => ∃ r', r'.keys = k' ∧ e = .returned (.int .i64 z) ∧ H' = rnR p 0 r' a cp H) := by
  have hz1 : k' = (dropK k v).2 := by rw [hz]
  have hz2 : z = (dropK k v).1 := by rw [hz]
  rw [hz1, hz2]
  clear hz hz1 hz2
  subst hk
  refine (drop_spec (by rw [← keys_len]; exact hl)).mono ?_
  intro e H' h
  unfold DropP at h
  rw [find_k] at h
  unfold dropK
  have hs : findK v r.keys.clock r.keys.sets 0 = findK v r.clock (r.sets.map Rg.key) 0 := rfl
  rw [hs]
  cases hf : findK v r.clock (r.sets.map Rg.key) 0 with
  | none =>
    rw [hf] at h
    exact ⟨r, rfl, h.1, h.2⟩
  | some i =>
    rw [hf] at h
    refine ⟨_, ?_, h.1, h.2⟩
    unfold Rn.keys
    dsimp only
    rw [keys_erase]
/-- What a ring has told is laid behind it. -/
theorem rn_push {w : World} {x : Res} (h : St F M w (x :: rnR p 0 r a cp H)) : St F M w (rnR p 0 r a cp (x :: H)) :=
  h.perm ((List.Perm.swap _ _ _).trans (((List.Perm.swap _ _ _).trans ((setsR_perm x H _).cons _)).cons _))
theorem sets_all (H : List Res) : ∀ l : List Rg, PSub H (setsR l H)
  | [] => PSub.refl _
  | _ :: l => PSub.drop (PSub.drop (sets_all H l))
theorem rn_all : PSub H (rnR p 0 r a cp H) := PSub.drop (PSub.drop (sets_all H _))
theorem alive_spec (hT : Tabs F M) : Meets Tryd.prog 10 [] F M H (fun e H' => e = .returned (.bool true) ∧ H' = H) := by
  refine Meets.enter Tryd.func10 rfl rfl ?_
  have e1 : rotK ⟨false, 0, 0, []⟩ 5 10 = (0, ⟨true, 5, 1, [(1, 0, true)]⟩) := by decide
  have e2 : rotK ⟨true, 5, 1, [(1, 0, true)]⟩ 20 10 = (0, ⟨true, 20, 2, [(2, 0, true), (1, 30, false)]⟩) := by decide
  have e3 : versK ⟨true, 20, 2, [(2, 0, true), (1, 30, false)]⟩ 29 = [2, 1] := by decide
  have e4 : versK ⟨true, 20, 2, [(2, 0, true), (1, 30, false)]⟩ 30 = [2] := by decide
  repeat' (first | (apply T.asn; apply rfl; apply rfl) | with_reducible refine Sr.nil ?_ | with_reducible refine S.seq ?_ | with_reducible refine S.reg ?_ | fail)
  refine T.call rfl rfl ringNew_spec ?_
  rintro _ _ ⟨p, rfl, rfl⟩
  repeat' (first | (apply T.eqlP; apply rfl; apply rfl) | (apply T.mv; apply rfl; apply rfl) | (apply T.asn; apply rfl; apply rfl) | with_reducible refine Sr.nil ?_ | with_reducible refine S.seq ?_ | with_reducible refine S.reg ?_ | with_reducible refine S.skip ?_ | (apply S.condFV; apply rfl; (first | with_reducible rfl | decide)) | (with_reducible apply T.ofRet) | fail)
  refine T.call rfl rfl (rot_k (now := 5) (g := 10) hT rfl e1 (by decide) (by decide) (by decide) (by decide)) ?_
  rintro _ _ ⟨r1, a1, c1, h1, rfl, rfl⟩
  repeat' (first | (apply T.mv; apply rfl; apply rfl) | (apply T.asn; apply rfl; apply rfl) | with_reducible refine Sr.nil ?_ | with_reducible refine S.seq ?_ | with_reducible refine S.reg ?_ | (with_reducible apply T.ofRet) | fail)
  refine T.call rfl rfl (rot_k (now := 20) (g := 10) hT h1 e2 (by decide) (by decide) (by decide) (by decide)) ?_
  rintro _ _ ⟨r2, a2, c2, h2, rfl, rfl⟩
  repeat' (first | (apply T.mv; apply rfl; apply rfl) | (apply T.asn; apply rfl; apply rfl) | with_reducible refine Sr.nil ?_ | with_reducible refine S.seq ?_ | with_reducible refine S.reg ?_ | (with_reducible apply T.ofRet) | fail)
  refine T.call rfl rfl (vers_k (now := 29) (n := 2) h2 e3 rfl (by decide)) ?_
  rintro _ _ ⟨va, vc, rfl, rfl⟩
  refine Sr.weaken (H' := rnR p 0 r2 a2 c2 (.row va vc 2 1 2 [.int .i64 2, .int .i64 1] :: H)) ?_ (fun w h => rn_push h)
  repeat' (first | (apply T.mv; apply rfl; apply rfl) | (apply T.asn; apply rfl; apply rfl) | with_reducible refine Sr.nil ?_ | with_reducible refine S.seq ?_ | with_reducible refine S.reg ?_ | fail)
  refine T.call rfl rfl (vers_k (now := 30) (n := 1) h2 e4 rfl (by decide)) ?_
  rintro _ _ ⟨ka, kc, rfl, rfl⟩
  refine Sr.weaken (H' := .row ka kc 2 1 1 [.int .i64 2] :: .row va vc 2 1 2 [.int .i64 2, .int .i64 1] :: H) ?_ (fun w h => h.psub (PSub.take pick_hd rn_all))
  repeat' (first | (apply Sr.same; refine T.ixC (i := 0) rfl inferInstance (by decide) (by decide) rfl ?_) | (apply Sr.same; refine T.ixC (i := 1) rfl inferInstance (by decide) (by decide) rfl ?_) | (apply T.loadE; apply rfl; apply rfl; infer_instance; apply rfl; apply rfl) | (apply T.mv; apply rfl; apply rfl) | (apply T.asn; apply rfl; apply rfl) | (apply T.len; apply rfl; apply rfl) | (apply T.eql; apply rfl; apply rfl; apply rfl) | (apply T.pickT; apply rfl; apply rfl; apply rfl) | with_reducible refine Sr.nil ?_ | with_reducible refine S.seq ?_ | with_reducible refine S.reg ?_ | (apply T.ungV; apply rfl; (first | with_reducible rfl | decide)) | (apply T.retW; apply rfl) | fail)
  exact ⟨_, PSub.drop (PSub.drop (PSub.refl _)), rfl, rfl⟩
theorem full_walk {d : Int} (hT : Tabs F M) (hn : -9223372036854775808 ≤ now ∧ now ≤ 9223372036854775807) (hg : -9223372036854775808 ≤ g ∧ g ≤ 9223372036854775807) :
    Meets Tryd.prog 4 [.int .i64 now, .int .i64 g, .int .i64 d] F M H (fun e H' => e = .returned (.bool true) ∧ H' = H) := by
  refine Meets.enter Tryd.func4 rfl rfl ?_
  repeat' (first | (apply T.asn; apply rfl; apply rfl) | with_reducible refine Sr.nil ?_ | with_reducible refine S.seq ?_ | with_reducible refine S.reg ?_ | fail)
  refine T.call rfl rfl (alive_spec hT) ?_
  rintro _ _ ⟨rfl, hH⟩
  have hH2 := hH.symm
  subst hH2
  clear hH
  by_cases h1 : g < 1
  · repeat' (first | (apply T.mv; apply rfl; apply rfl) | (apply T.asn; apply rfl; apply rfl) | (apply T.lss; apply rfl; apply rfl; apply rfl) | (apply T.notB; apply rfl; apply rfl) | (apply T.pickT; apply rfl; apply rfl; apply rfl) | with_reducible refine Sr.nil ?_ | with_reducible refine S.seq ?_ | with_reducible refine S.reg ?_ | with_reducible refine S.skip ?_ | (apply T.skip; apply rfl; (first | with_reducible rfl | decide); apply rfl) | (apply S.condTV; apply rfl; (first | with_reducible rfl | decide)) | (apply S.condFV; apply rfl; (first | with_reducible rfl | decide)) | (apply T.gcase; apply rfl; apply rfl; all_goals (intro _; try (exfalso; first | omega | with_reducible contradiction))) | (apply T.retW; apply rfl) | (with_reducible apply T.ofRet) | fail)
    exact ⟨_, PSub.refl _, rfl, rfl⟩
  by_cases h2 : g > 4294967296
  · repeat' (first | (apply T.mv; apply rfl; apply rfl) | (apply T.asn; apply rfl; apply rfl) | (apply T.lss; apply rfl; apply rfl; apply rfl) | (apply T.gtr; apply rfl; apply rfl; apply rfl) | (apply T.notB; apply rfl; apply rfl) | (apply T.pickT; apply rfl; apply rfl; apply rfl) | (apply T.pickF; apply rfl; apply rfl; apply rfl) | with_reducible refine Sr.nil ?_ | with_reducible refine S.seq ?_ | with_reducible refine S.reg ?_ | with_reducible refine S.skip ?_ | (apply T.ungV; apply rfl; (first | with_reducible rfl | decide)) | (apply T.skip; apply rfl; (first | with_reducible rfl | decide); apply rfl) | (apply S.condTV; apply rfl; (first | with_reducible rfl | decide)) | (apply S.condFV; apply rfl; (first | with_reducible rfl | decide)) | (apply T.gcase; apply rfl; apply rfl; all_goals (intro _; try (exfalso; first | omega | with_reducible contradiction))) | (apply T.retW; apply rfl) | (with_reducible apply T.ofRet) | fail)
    exact ⟨_, PSub.refl _, rfl, rfl⟩
  by_cases h3 : now > 4611686018427387904
  · repeat' (first | (apply T.mv; apply rfl; apply rfl) | (apply T.asn; apply rfl; apply rfl) | (apply T.lss; apply rfl; apply rfl; apply rfl) | (apply T.gtr; apply rfl; apply rfl; apply rfl) | (apply T.notB; apply rfl; apply rfl) | (apply T.pickF; apply rfl; apply rfl; apply rfl) | with_reducible refine Sr.nil ?_ | with_reducible refine S.seq ?_ | with_reducible refine S.reg ?_ | with_reducible refine S.skip ?_ | (apply T.ungV; apply rfl; (first | with_reducible rfl | decide)) | (apply S.condFV; apply rfl; (first | with_reducible rfl | decide)) | (apply S.condQ; apply rfl; all_goals (intro _; try (exfalso; first | omega | with_reducible contradiction))) | (apply T.gcase; apply rfl; apply rfl; all_goals (intro _; try (exfalso; first | omega | with_reducible contradiction))) | (apply T.retW; apply rfl) | (with_reducible apply T.ofRet) | fail)
    exact ⟨_, PSub.refl _, rfl, rfl⟩
  have hn' : now ≤ 4611686018427387904 := by omega
  have hg' : 1 ≤ g ∧ g ≤ 4294967296 := by omega
  have hlen : ∀ i ≤ 8, (fullK (now + g) now i).sets.length ≤ 100 := fun i hi => by
    cases i with
    | zero => exact Nat.zero_le _
    | succ n => rw [fullK]; simp only [List.length_cons, rest_len]; omega
  have hlast : ∀ i ≤ 8, -9223372036854775808 ≤ (fullK (now + g) now i).last ∧ (fullK (now + g) now i).last < 9223372036854775807 := fun i hi => by
    cases i with
    | zero => rw [fullK]; dsimp only; omega
    | succ n => rw [fullK]; dsimp only; omega
  repeat' (first | (apply T.mv; apply rfl; apply rfl) | (apply T.lss; apply rfl; apply rfl; apply rfl) | (apply T.gtr; apply rfl; apply rfl; apply rfl) | (apply T.notB; apply rfl; apply rfl) | (apply T.pickF; apply rfl; apply rfl; apply rfl) | with_reducible refine Sr.nil ?_ | with_reducible refine S.seq ?_ | with_reducible refine S.reg ?_ | with_reducible refine S.skip ?_ | (apply T.ungV; apply rfl; (first | with_reducible rfl | decide)) | (apply S.condFV; apply rfl; (first | with_reducible rfl | decide)) | (apply S.condQ; apply rfl; all_goals (intro _; try (exfalso; first | omega | with_reducible contradiction))) | (apply T.gcase; apply rfl; apply rfl; all_goals (intro _; try (exfalso; first | omega | with_reducible contradiction))) | (with_reducible apply T.ofRet) | fail)
  refine T.call rfl rfl ringNew_spec ?_
  rintro _ _ ⟨p, rfl, rfl⟩
  repeat' (first | (apply T.asn; apply rfl; apply rfl) | with_reducible refine Sr.nil ?_ | with_reducible refine S.seq ?_ | with_reducible refine S.block ?_ | with_reducible refine S.reg ?_ | (with_reducible apply T.ofRet) | fail)
  refine S.loopE 0 [0, 1, 2, 7] (fun R b' μ H' e => ∃ (i : Nat) (r : Rn) (a : Option Addr) (cp : Nat), H' = rnR p 0 r a cp H ∧ e = (8, .int .i64 i) :: b' ∧ (i ≤ 8 ∧ r.keys = fullK (now + g) now i) ∧ μ = 8 - i) rfl rfl ?_ _ _ ⟨0, _, _, _, rfl, rfl, ⟨by decide, rfl⟩, rfl⟩ (by repeat' first | exact trivial | refine And.intro rfl ?_)
  rintro _ _ _ ⟨i, r, a, cp, rfl, rfl, ⟨c1, c2⟩, rfl⟩ ih
  by_cases c3 : i < 8
  · repeat' (first | (apply T.mv; apply rfl; apply rfl) | (apply T.lss; apply rfl; apply rfl; apply rfl) | with_reducible refine Sr.nil ?_ | with_reducible refine S.seq ?_ | with_reducible refine S.block ?_ | with_reducible refine S.reg ?_ | with_reducible refine S.skip ?_ | (apply S.condQ; apply rfl; all_goals (intro _; try (exfalso; first | omega | with_reducible contradiction))) | fail)
    refine T.call rfl rfl (rot_k hT c2 (rot_go hn' hg' i c3) (hlen i c1) (hlast i c1) hn ⟨by omega, by omega⟩) ?_
    rintro _ _ ⟨r', a', cp', k1, rfl, rfl⟩
    repeat' (first | (apply T.mv; apply rfl; apply rfl) | (apply T.asn; apply rfl; apply rfl) | (apply T.neq; apply rfl; apply rfl; apply rfl) | (apply T.addI; apply rfl; apply rfl; omega; apply rfl) | with_reducible refine Sr.nil ?_ | with_reducible refine S.reg ?_ | with_reducible refine S.skip ?_ | with_reducible refine S.inBlock ?_ | (apply S.condFV; apply rfl; (first | with_reducible rfl | decide)) | (with_reducible apply T.ofRet) | fail)
    exact ih _ _ _ _ ⟨i + 1, r', a', cp', rfl, rfl, ⟨c3, k1⟩, rfl⟩ (by omega) (by repeat' first | exact trivial | refine And.intro rfl ?_)
  · obtain rfl : i = 8 := by omega
    clear ih
    repeat' (first | (apply T.mv; apply rfl; apply rfl) | (apply T.lss; apply rfl; apply rfl; apply rfl) | with_reducible refine Sr.nil ?_ | with_reducible refine S.seq ?_ | with_reducible refine S.reg ?_ | (apply S.exit; apply rfl) | (apply S.condFV; apply rfl; (first | with_reducible rfl | decide)) | fail)
    refine T.call rfl rfl (rot_k hT c2 (rot_stop hn' hg') (hlen 8 c1) (hlast 8 c1) hn ⟨by omega, by omega⟩) ?_
    rintro _ _ ⟨r, a, cp, c2, rfl, rfl⟩
    repeat' (first | (apply T.mv; apply rfl; apply rfl) | (apply T.neq; apply rfl; apply rfl; apply rfl) | (apply T.ungV; apply rfl; (first | with_reducible rfl | decide)) | (with_reducible apply T.ofRet) | fail)
    refine T.call rfl rfl (vers_k (n := 8) c2 (vers_eight hg') rfl (hlen 8 c1)) ?_
    rintro _ _ ⟨va, vc, rfl, rfl⟩
    refine Sr.weaken (H' := rnR p 0 r a cp H) ?_ (fun w h => h.psub (PSub.drop (PSub.refl _)))
    have hd : (1 ≤ d ∧ d ≤ 8) ∨ d < 1 ∨ 8 < d := by omega
    rcases hd with hd | hd | hd
    · obtain ⟨hd1, hd2⟩ := hd
      obtain ⟨l, l', v, q1, q2, q3, q4, q5, q6, q7, q8⟩ := drop_room hn' hg' ⟨hd1, hd2⟩
      repeat' (first | (apply T.mv; apply rfl; apply rfl) | (apply T.len; apply rfl; apply rfl) | (apply T.leq; apply rfl; apply rfl; apply rfl) | (apply T.geq; apply rfl; apply rfl; apply rfl) | (apply T.neq; apply rfl; apply rfl; apply rfl) | (apply T.pickT; apply rfl; apply rfl; apply rfl) | (apply T.pickF; apply rfl; apply rfl; apply rfl) | with_reducible refine Sr.nil ?_ | with_reducible refine S.seq ?_ | with_reducible refine S.reg ?_ | with_reducible refine S.skip ?_ | (apply T.ungV; apply rfl; (first | with_reducible rfl | decide)) | (apply S.condFV; apply rfl; (first | with_reducible rfl | decide)) | (apply S.condQ; apply rfl; all_goals (intro _; try (exfalso; first | omega | with_reducible contradiction))) | (apply T.gcase; apply rfl; apply rfl; all_goals (intro _; try (exfalso; first | omega | with_reducible contradiction))) | fail)
      refine T.call rfl rfl (drop_k c2 q1 (hlen 8 c1)) ?_
      rintro _ _ ⟨r, c2, rfl, rfl⟩
      repeat' (first | (apply T.mv; apply rfl; apply rfl) | (apply T.neq; apply rfl; apply rfl; apply rfl) | (apply T.ungV; apply rfl; (first | with_reducible rfl | decide)) | (with_reducible apply T.ofRet) | fail)
      refine T.call rfl rfl (drop_k c2 q3 (by show l.length ≤ 100; omega)) ?_
      rintro _ _ ⟨r, c2, rfl, rfl⟩
      repeat' (first | (apply T.mv; apply rfl; apply rfl) | (apply T.neq; apply rfl; apply rfl; apply rfl) | (apply T.pickF; apply rfl; apply rfl; apply rfl) | (apply T.ungV; apply rfl; (first | with_reducible rfl | decide)) | (with_reducible apply T.ofRet) | fail)
      refine T.call rfl rfl (rot_k hT c2 q4 (by show l.length ≤ 100; omega) (by dsimp only; omega) hn ⟨by omega, by omega⟩) ?_
      rintro _ _ ⟨r, a, cp, c2, rfl, rfl⟩
      repeat' (first | (apply T.mv; apply rfl; apply rfl) | (apply T.neq; apply rfl; apply rfl; apply rfl) | (apply T.pickF; apply rfl; apply rfl; apply rfl) | (apply T.ungV; apply rfl; (first | with_reducible rfl | decide)) | (with_reducible apply T.ofRet) | fail)
      refine T.call rfl rfl (rot_k hT c2 q6 (by show l'.length ≤ 100; omega) (by dsimp only; omega) hn ⟨by omega, by omega⟩) ?_
      rintro _ _ ⟨r, a, cp, c2, rfl, rfl⟩
      repeat' (first | (apply T.mv; apply rfl; apply rfl) | (apply T.neq; apply rfl; apply rfl; apply rfl) | (apply T.pickF; apply rfl; apply rfl; apply rfl) | with_reducible refine Sr.nil ?_ | with_reducible refine S.seq ?_ | with_reducible refine S.reg ?_ | with_reducible refine S.skip ?_ | (apply T.ungV; apply rfl; (first | with_reducible rfl | decide)) | (apply S.condFV; apply rfl; (first | with_reducible rfl | decide)) | (with_reducible apply T.ofRet) | fail)
      refine T.call rfl rfl (vers_k (n := 8) c2 q7 (by rw [List.length_cons, q8]) (by show l'.length ≤ 100; omega)) ?_
      rintro _ _ ⟨va, vc, rfl, rfl⟩
      have hrl : ((9 :: v).map (Value.int .i64)).length = 8 := by rw [List.length_map, List.length_cons, q8]
      repeat' (first | (apply Sr.same; refine T.ixC (i := 0) rfl inferInstance (by decide) (by rw [hrl]; decide) rfl ?_) | (apply T.loadE; apply rfl; apply rfl; infer_instance; apply rfl; apply rfl) | (apply T.mv; apply rfl; apply rfl) | (apply T.asn; apply rfl; apply rfl) | (apply T.len; apply rfl; apply rfl) | (apply T.eql; apply rfl; apply rfl; apply rfl) | (apply T.pickT; apply rfl; apply rfl; apply rfl) | with_reducible refine Sr.nil ?_ | with_reducible refine S.seq ?_ | with_reducible refine S.reg ?_ | (apply T.ungV; apply rfl; (first | with_reducible rfl | decide)) | (apply T.retW; apply rfl) | (with_reducible apply T.ofRet) | fail)
      exact ⟨_, PSub.drop rn_all, rfl, rfl⟩
    all_goals
      repeat' (first | (apply T.mv; apply rfl; apply rfl) | (apply T.len; apply rfl; apply rfl) | (apply T.leq; apply rfl; apply rfl; apply rfl) | (apply T.geq; apply rfl; apply rfl; apply rfl) | (apply T.neq; apply rfl; apply rfl; apply rfl) | (apply T.addI; apply rfl; apply rfl; omega; apply rfl) | (apply T.pickT; apply rfl; apply rfl; apply rfl) | (apply T.pickF; apply rfl; apply rfl; apply rfl) | with_reducible refine Sr.nil ?_ | with_reducible refine S.seq ?_ | with_reducible refine S.reg ?_ | with_reducible refine S.skip ?_ | (apply T.ungV; apply rfl; (first | with_reducible rfl | decide)) | (apply T.skip; apply rfl; (first | with_reducible rfl | decide); apply rfl) | (apply S.condFV; apply rfl; (first | with_reducible rfl | decide)) | (apply S.condQ; apply rfl; all_goals (intro _; try (exfalso; first | omega | with_reducible contradiction))) | (apply T.gcase; apply rfl; apply rfl; all_goals (intro _; try (exfalso; first | omega | with_reducible contradiction))) | fail)
      refine T.call rfl rfl (vers_k (n := 1) c2 (vers_one hg') rfl (hlen 8 c1)) ?_
      rintro _ _ ⟨va, vc, rfl, rfl⟩
      repeat' (first | (apply Sr.same; refine T.ixC (i := 0) rfl inferInstance (by decide) (by decide) rfl ?_) | (apply T.loadE; apply rfl; apply rfl; infer_instance; apply rfl; apply rfl) | (apply T.mv; apply rfl; apply rfl) | (apply T.asn; apply rfl; apply rfl) | (apply T.len; apply rfl; apply rfl) | (apply T.eql; apply rfl; apply rfl; apply rfl) | (apply T.addI; apply rfl; apply rfl; omega; apply rfl) | (apply T.subI; apply rfl; apply rfl; omega; apply rfl) | (apply T.pickT; apply rfl; apply rfl; apply rfl) | with_reducible refine Sr.nil ?_ | with_reducible refine S.seq ?_ | with_reducible refine S.reg ?_ | (apply T.ungV; apply rfl; (first | with_reducible rfl | decide)) | (with_reducible apply T.ofRet) | fail)
      refine Sr.weaken (H' := rnR p 0 r a cp H) ?_ (fun w h => h.psub (PSub.drop (PSub.refl _)))
      skip
      refine T.call rfl rfl (rot_k hT c2 (rot_late hn' hg') (hlen 8 c1) (hlast 8 c1) (by omega) ⟨by omega, by omega⟩) ?_
      rintro _ _ ⟨r, a, cp, c2, rfl, rfl⟩
      have hl7 : ((9, 0, true) :: restK (now + g) 7 : List Key).length ≤ 100 := by rw [List.length_cons, rest_len]; omega
      repeat' (first | (apply T.mv; apply rfl; apply rfl) | (apply T.eql; apply rfl; apply rfl; apply rfl) | (apply T.addI; apply rfl; apply rfl; omega; apply rfl) | (apply T.subI; apply rfl; apply rfl; omega; apply rfl) | (apply T.pickT; apply rfl; apply rfl; apply rfl) | (apply T.ungV; apply rfl; (first | with_reducible rfl | decide)) | (with_reducible apply T.ofRet) | fail)
      refine T.call rfl rfl (vers_k (n := 8) c2 vers_late rfl hl7) ?_
      rintro _ _ ⟨va, vc, rfl, rfl⟩
      refine Sr.weaken (H' := rnR p 0 r a cp H) ?_ (fun w h => h.psub (PSub.drop (PSub.refl _)))
      repeat' (first | (apply T.mv; apply rfl; apply rfl) | (apply T.len; apply rfl; apply rfl) | (apply T.eql; apply rfl; apply rfl; apply rfl) | (apply T.addI; apply rfl; apply rfl; omega; apply rfl) | (apply T.pickT; apply rfl; apply rfl; apply rfl) | (apply T.ungV; apply rfl; (first | with_reducible rfl | decide)) | fail)
      refine T.call rfl rfl (rot_k hT c2 (rot_last hn' hg') hl7 (by dsimp only; omega) (by omega) ⟨by omega, by omega⟩) ?_
      rintro _ _ ⟨r, a, cp, c2, rfl, rfl⟩
      repeat' (first | (apply T.mv; apply rfl; apply rfl) | (apply T.eql; apply rfl; apply rfl; apply rfl) | (apply T.addI; apply rfl; apply rfl; omega; apply rfl) | (apply T.pickT; apply rfl; apply rfl; apply rfl) | (apply T.ungV; apply rfl; (first | with_reducible rfl | decide)) | (with_reducible apply T.ofRet) | fail)
      refine T.call rfl rfl (vers_k (n := 1) c2 (L := [10]) (by simp [versK, Kr.back, liveK]) rfl (by show 1 ≤ 100; omega)) ?_
      rintro _ _ ⟨va, vc, rfl, rfl⟩
      repeat' (first | (apply T.asn; apply rfl; apply rfl) | (apply T.len; apply rfl; apply rfl) | (apply T.eql; apply rfl; apply rfl; apply rfl) | (apply T.pickT; apply rfl; apply rfl; apply rfl) | with_reducible refine Sr.nil ?_ | (apply T.ungV; apply rfl; (first | with_reducible rfl | decide)) | (apply T.retW; apply rfl) | (with_reducible apply T.ofRet) | fail)
      exact ⟨_, PSub.drop rn_all, rfl, rfl⟩
end
end Go.Proofs.YtnimcchalinihaaDoor
/- From a walk of a law to its row: the arguments opened, and read again behind the call; for every program. -/
namespace Sg
open Go Go.ChangeShapes Go.WideShapes Go.RowKit

theorem trodAll_below {H : Type} {enc : TypeId × Value → H} {P : Program} (hl : laidOutB P = true) {W W' : World} (hb : Below W.heap.size W W') : ∀ {ts : List TypeId} {vs : List Value} {ds : List (DataW H)} {ps : List MemPlace},
    ts.all (fun t => P.readableRec t && decide (t < P.types.size)) = true → DataW.TrodAll enc P W 0 (fun _ => true) true ts vs ds ps → (∀ x ∈ ps, x.block < W.heap.size) → DataW.TrodAll enc P W' 0 (fun b => decide (b < W.heap.size)) true ts vs ds ps
  | [], [], [], _, _, h, _ => h
  | t :: ts, v :: vs, d :: ds, ps, ht, h, hlt => by
    obtain ⟨p, q, h1, h2, rfl⟩ := h
    simp only [List.all_cons, Bool.and_eq_true, decide_eq_true_eq] at ht
    exact ⟨p, q, Below.trod hl ht.1.1 ht.1.2 h1 hb (fun x hx => hlt x (List.mem_append_left _ hx)), trodAll_below hl hb (by simpa using ht.2) h2 (fun x hx => hlt x (List.mem_append_right _ hx)), rfl⟩
  | [], _ :: _, _, _, _, h, _ => h.elim
  | [], [], _ :: _, _, _, h, _ => h.elim
  | _ :: _, [], _, _, _, h, _ => h.elim
  | _ :: _, _ :: _, [], _, _, h, _ => h.elim
theorem trodAll_len {H : Type} {enc : TypeId × Value → H} {P : Program} {W : World} {base : Nat} {sp : Nat → Bool} {held : Bool} : ∀ {ts : List TypeId} {vs : List Value} {ds : List (DataW H)} {ps : List MemPlace}, DataW.TrodAll enc P W base sp held ts vs ds ps → ds.length = ts.length
  | [], [], [], _, _ => rfl
  | t :: ts, v :: vs, d :: ds, ps, h => by
    obtain ⟨p, q, h1, h2, rfl⟩ := h
    rw [List.length_cons, List.length_cons, trodAll_len h2]
  | [], _ :: _, _, _, h => h.elim
  | [], [], _ :: _, _, h => h.elim
  | _ :: _, [], _, _, h => h.elim
  | _ :: _, _ :: _, [], _, h => h.elim
/- Arguments, opened. -/
theorem cell_lt {w : World} {a : Addr} {v : Value} (h : w.cell? a = some v) : a.block < w.heap.size := by
  rcases Nat.lt_or_ge a.block w.heap.size with h1 | h1
  · exact h1
  · simp [World.cell?, Array.getElem?_eq_none h1] at h
/-- Cells of the world at the beginning stay as long as nothing old may be written. -/
theorem Rd.ofF {F : World} {H : List Res} {ad : Option Addr} {vs : List Value} (h : ∀ j u, vs[j]? = some u → ∃ a, ad = some a ∧ F.cell? (a.add j) = some u) : Rd F [] H ad vs := ⟨fun w hw j u hu => by
  obtain ⟨a, ha, hc⟩ := h j u hu
  refine ⟨a, ha, ?_⟩
  have hlt := cell_lt hc
  have := hw.keep _ hlt (by simp)
  simp only [World.cell?] at hc ⊢
  rw [this]
  exact hc⟩
/- Listed arrays of numbers. -/
theorem laid_ints {P : Program} {W : World} {nm : String} {g T E n : Nat} {k : IntKind} {ns : List Int} {cs : Array Value} {fuel : Nat} {p : List MemPlace} {sp : Nat → Bool} (hg : P.globalNamed nm = some g) (hT : P.underlying T = some (.array n E)) (hE : P.underlying E = some (.int k)) (hc : P.cellsOf E = 1)
    (hv : W.var? P nm = some cs) (hd : DataW.trod (fun _ => ()) P W 0 sp false fuel T cs.toList = some (.agg (ns.map fun z => .lit (.int k z)), p)) : ∀ j z, ns[j]? = some z → W.cell? ⟨g, j, none⟩ = some (.int k z) := by
  intro j z hz
  obtain ⟨xs, m, rfl, hx, hlen, hn, hel⟩ := DataW.trod_array hT hd
  simp only [Prod.mk.injEq, DataW.agg.injEq] at hx
  have hj : j < ns.length := (List.getElem?_eq_some_iff.1 hz).1
  have hxl : xs.length = ns.length := by
    have := congrArg List.length hx.1
    simpa using this.symm
  have h1 := hel j (by omega)
  rw [hc, Nat.mul_one, List.getElem?_eq_getElem (by omega)] at h1
  obtain ⟨z', e1, e2, -⟩ := DataW.trod_int hE h1
  have h2 : (xs.map (·.1))[j]? = (ns.map fun z => (DataW.lit (.int k z) : DataW Unit))[j]? := by rw [hx.1]
  rw [List.getElem?_map, List.getElem?_map, hz, List.getElem?_eq_getElem (by omega), e2] at h2
  simp only [Option.map_some, Option.some.injEq, DataW.lit.injEq, Lit.int.injEq, true_and] at h2
  subst h2
  have h3 : cs[j]? = some (.int k z') := by
    have : (cs.toList.drop j).take 1 = [.int k z'] := e1
    have h4 : ((cs.toList.drop j).take 1)[0]? = some (.int k z') := by rw [this]; rfl
    rw [List.getElem?_take_of_lt (by omega), List.getElem?_drop] at h4
    simpa using h4
  rw [World.var?_cell hg hv j]
  exact h3
end Sg
/- From a walk of a law to its row, the world's shape handed on. -/
namespace Sg
open Go Go.ChangeShapes Go.WideShapes Go.RowKit
section
variable {H : Type} {enc : TypeId × Value → H}
theorem returns_shaped {a : Assume} {C : Checked} {os : Os} {f : FuncId} {fn : Func} {s : ChangeSpec} {conds : List PathCond} {apart fresh handsOn again : Bool} {X : World → Array Value → Prop}
    (hX : ∀ (w w' : World) (args : Array Value), w.heap = w'.heap → X w args → X w' args)
    (own : ownKnob C.prog.godebug = none) (started : os.Started) (noInit : C.prog.inits.idxOf? f = none) (hfn : C.prog.funcs[f]? = some fn)
    (witness : ∃ (w : World) (tape : Tape) (i : Input), w.os = os ∧ (w.forCall tape i).Shaped C.prog ∧ i.vars = [] ∧ Input.okWide C.prog (w.forCall tape i) .any w.heap.size f i ∧
      ((s.pre enc C.prog fn conds apart (w.forCall tape i).memory i.args ∧ X (w.forCall tape i).memory i.args) ∧ sizedMet enc C.prog fn (OpenSpec.ofChange s) apart (w.forCall tape i).memory i.args) ∧ a.holds C.prog (lone (Frame.enter C.prog f i.args .normal) [] (w.forCall tape i)))
    (contract : ∀ (W : World) (base : Nat) (args : Array Value) (ds gs : List (DataW H)) (before : List MemPlace),
      (∀ (j : Nat) t v, fn.params[j]? = some t → args[j]? = some v → Value.okWide C.prog W .any base t v) →
      DataW.Whole enc C.prog fn.params.toList s.vars apart W args.toList ds gs before →
      conds.all (PathCond.test C.prog ⟨fn.params.toList, ds, s.plain.varTypes C.prog, gs⟩) = true →
      (DataW.weightsEach C.prog (fn.params.toList ++ s.plain.varTypes C.prog) (ds ++ gs)).all (· ≤ reachBytes) = true → X W args → W.ShapedOpen C.prog →
      a.holds C.prog (lone (Frame.enter C.prog f args .normal) [] W) →
      Calls C.prog f args W fun e W' => ∃ v, e = .returned v ∧ s.post enc C.prog fn apart fresh handsOn again W args v W') :
    ReturnsInHanded a C os f .any (fun w args => (s.pre enc C.prog fn conds apart w args ∧ X w args) ∧ sizedMet enc C.prog fn (OpenSpec.ofChange s) apart w args) (s.post enc C.prog fn apart fresh handsOn again) := by
  refine returnsInHanded_of_calls own started noInit witness ?_
  intro w tape i _ hsh _ hok hpre hholds
  obtain ⟨_, _, _, fn', hfn', _, _, _, _, hval⟩ := hok
  have e : fn' = fn := Option.some.inj (hfn'.symm.trans hfn)
  subst e
  obtain ⟨⟨⟨ds, gs, before, hw, hc⟩, hx⟩, hz⟩ := hpre
  have hw' := DataW.Whole.of_heap (w' := w.forCall tape i) (by rfl) hw
  refine (contract (w.forCall tape i) w.heap.size i.args ds gs before hval hw' hc (hz.weights hw) (hX _ _ _ (by rfl) hx) hsh hholds).mono fun e W' ⟨v, he, hp⟩ => ?_
  subst he
  exact ChangeSpec.post_blind hp
end
/-- What a law's walk must show, where it asks for the world's shape. -/
def LawWalkS (P : Program) (f : FuncId) (fn : Func) (X : World → Prop) : Prop :=
  ∀ {H : Type} {enc : TypeId × Value → H} (W : World) (base : Nat) (args : Array Value) (ds : List (DataW H)) (p : List MemPlace), (∀ (j : Nat) t v, fn.params[j]? = some t → args[j]? = some v → Value.okWide P W .any base t v) →
    DataW.TrodAll enc P W 0 (fun _ => true) true fn.params.toList args.toList ds p → (DataW.weightsEach P fn.params.toList ds).all (· ≤ reachBytes) = true → X W → W.ShapedOpen P →
    Meets P f args.toList W [] [] (fun e _ => e = .returned (.bool true))
theorem law_lifted_shaped {C : Checked} {os : Os} {f : FuncId} {fn : Func} {s : ChangeSpec} {rt : TypeId} {X : World → Prop} {fresh handsOn : Bool} (H : Type) (enc : TypeId × Value → H) (hX : ∀ (w w' : World), w.heap = w'.heap → X w → X w') (own : ownKnob C.prog.godebug = none) (started : os.Started) (noInit : C.prog.inits.idxOf? f = none) (hfn : C.prog.funcs[f]? = some fn)
    (witness : ∃ (w : World) (tape : Tape) (i : Input), w.os = os ∧ (w.forCall tape i).Shaped C.prog ∧ i.vars = [] ∧ Input.okWide C.prog (w.forCall tape i) .any w.heap.size f i ∧
      ((s.pre enc C.prog fn [] false (w.forCall tape i).memory i.args ∧ X (w.forCall tape i).memory) ∧ sizedMet enc C.prog fn (OpenSpec.ofChange s) false (w.forCall tape i).memory i.args) ∧ ({} : Assume).holds C.prog (lone (Frame.enter C.prog f i.args .normal) [] (w.forCall tape i)))
    (hres : fn.resultTypes = #[rt]) (hrt : C.prog.underlying rt = some .bool) (hvars : s.vars = []) (hs : ∀ (H : Type) (ds : List (DataW H)), ds.length = fn.params.toList.length → s.fn H ds = { results := [.lit (.bool true)], args := ds })
    (hl : laidOutB C.prog = true) (hts : fn.params.toList.all (fun t => C.prog.readableRec t && decide (t < C.prog.types.size)) = true) (law : LawWalkS C.prog f fn X) :
    ReturnsInHanded {} C os f .any (fun w args => (s.pre enc C.prog fn [] false w args ∧ X w) ∧ sizedMet enc C.prog fn (OpenSpec.ofChange s) false w args) (s.post enc C.prog fn false fresh handsOn false) := by
  refine returns_shaped (X := fun w _ => X w) (fun w w' _ hh h => hX w w' hh h) own started noInit hfn witness ?_
  intro W base args ds gs before hval hW _ hz hx hsh _
  have hW' := hW
  obtain ⟨p, q, hA, hV, rfl, hfz, hnd⟩ := hW
  rw [hvars] at hV
  obtain ⟨rfl, rfl⟩ := trodVars_none hV
  have hvt : s.plain.varTypes C.prog = [] := by simp [DataSpec.varTypes, ChangeSpec.plain, hvars]
  rw [hvt, List.append_nil, List.append_nil] at hz
  have hlt : ∀ x ∈ p, x.block < W.heap.size := fun x hx => hW'.lt x (List.mem_append_left _ hx)
  have hlen := trodAll_len hA
  refine (law W base args ds p hval hA hz hx hsh W (St.refl W)).mono fun e W' ⟨H', he, hst⟩ => ?_
  subst he
  have hb : Below W.heap.size W W' := ⟨hst.os, hst.tape, hst.output, hst.size, fun k hk => hst.keep k hk (by simp)⟩
  refine ⟨_, rfl, ds, [], _, [], p, [], hW', ?_, ?_, ?_, Below.frame hb _, fun h => by cases h⟩
  · rw [List.append_nil, hs H ds hlen, hres]
    exact trodAll_mk1 (shut_bool hrt true)
  · rw [List.append_nil, hs H ds hlen]
    exact trodAll_below hl hb hts hA hlt
  · rw [hvars, List.append_nil, hs H ds hlen]
    rfl
theorem laid_find {P : Program} {W : World} {nm : String} {d : DataW Unit} : ∀ {l : List (String × DataW Unit)} {ps : List MemPlace}, DataW.LaidVars P W l ps → (nm, d) ∈ l →
    ∃ g t cs fuel p, P.globalNamed nm = some g ∧ (P.globals[g]?).map (·.type) = some t ∧ W.var? P nm = some cs ∧ DataW.trod (fun _ => ()) P W 0 (fun _ => true) false fuel t cs.toList = some (d, p)
  | [], _, _, hm => by cases hm
  | (n, e) :: r, ps, h, hm => by
    obtain ⟨g, t, cs, fuel, p, q, h1, h2, h3, h4, h5, -⟩ := h
    rcases List.mem_cons.1 hm with hm | hm
    · simp only [Prod.mk.injEq] at hm
      obtain ⟨rfl, rfl⟩ := hm
      exact ⟨g, t, cs, fuel, p, h1, h2, h3, h4⟩
    · exact laid_find h5 hm
end Sg
