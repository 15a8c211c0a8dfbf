/- The plain law of Open: what it takes is its book's image, and a book's image is taken. -/
import Derived.Test.YtcojlgkfkifhmaaRepI
namespace Go.Proofs.Ytcojlgkfkifhmaa
open Sg Go.IntWalk
/- Numbers as bytes, and back. -/
theorem beN_succ (s n : Nat) : beN (s + 1) n = beN s (n / 256) ++ [UInt8.ofNat (n % 256)] := by
  unfold beN
  rw [List.range_succ, List.map_append]
  congr 1
  · refine List.map_congr_left fun j hj => ?_
    have hj' : j < s := List.mem_range.1 hj
    congr 2
    have e : 8 * (s + 1 - 1 - j) = 8 * (s - 1 - j) + 8 := by omega
    rw [e, Nat.pow_add, Nat.mul_comm, ← Nat.div_div_eq_div_mul]
  · simp
theorem beV_beN : ∀ (s n : Nat), beV (beN s n) = n % 256 ^ s
  | 0, n => by simp [beN, beV, Nat.mod_one]
  | s + 1, n => by
    have e1 : (UInt8.ofNat (n % 256)).toNat = n % 256 := by
      rw [UInt8.toNat_ofNat']
      omega
    have e2 : 256 ^ (s + 1) = 256 * 256 ^ s := by rw [Nat.pow_succ, Nat.mul_comm]
    rw [beN_succ, beV_snoc, beV_beN s, e1, e2, Nat.mod_mul]
    omega
theorem beN_beV : ∀ (l : List UInt8), beN l.length (beV l) = l := by
  intro l
  induction hn : l.length generalizing l with
  | zero =>
    rw [List.eq_nil_of_length_eq_zero hn]
    rfl
  | succ n ih =>
    rcases List.eq_nil_or_concat l with rfl | ⟨l, c, rfl⟩
    · cases hn
    · rw [List.concat_eq_append, List.length_append, List.length_singleton] at hn
      rw [List.concat_eq_append, beV_snoc, beN_succ]
      have h2 := c.toNat_lt
      have e1 : (beV l * 256 + c.toNat) / 256 = beV l := by omega
      have e2 : (beV l * 256 + c.toNat) % 256 = c.toNat := by omega
      rw [e1, e2, ih l (by omega)]
      simp
theorem u64_toI {n : Nat} (h : n < 18446744073709551616) : u64 (toI n) = n := by
  unfold u64 toI
  split <;> omega
theorem toI_u64 {z : Int} (h : -9223372036854775808 ≤ z ∧ z ≤ 9223372036854775807) : toI (u64 z) = z := by
  unfold u64 toI
  split <;> omega
/- What a reader reads. -/
theorem number_at {pre rest : List UInt8} {n v : Nat} (h : v < 256 ^ n) : Rr.number (pre ++ (beN n v ++ rest)) ⟨pre.length, false⟩ n = (v, ⟨pre.length + n, false⟩) := by
  unfold Rr.number Rr.take
  have hl : ¬ (false = true ∨ (pre ++ (beN n v ++ rest)).length < pre.length + n) := by
    rw [List.length_append, List.length_append, beN_len]
    simp
  rw [if_neg hl]
  simp only [List.drop_left]
  rw [List.take_left' (beN_len n v), beV_beN, Nat.mod_eq_of_lt h]
theorem take_at' {pre rest x : List UInt8} : Rr.take (pre ++ (x ++ rest)) ⟨pre.length, false⟩ x.length = (x, ⟨pre.length + x.length, false⟩) := by
  unfold Rr.take
  have hl : ¬ (false = true ∨ (pre ++ (x ++ rest)).length < pre.length + x.length) := by
    rw [List.length_append, List.length_append]
    simp
  rw [if_neg hl]
  simp only [List.drop_left]
  rw [List.take_left' rfl]
theorem need_true {r : Rr} {n : Nat} : r.need true n = r := by
  unfold Rr.need
  rw [if_neg (by simp)]
theorem take_okR {l : List UInt8} {r : Rr} {n : Nat} (h : (r.take l n).2.bad = false) : r.bad = false ∧ r.pos + n ≤ l.length ∧ (r.take l n).2 = ⟨r.pos + n, false⟩ ∧ l.take (r.pos + n) = l.take r.pos ++ (r.take l n).1 := by
  unfold Rr.take at h ⊢
  split at h
  · cases h
  · rename_i h1
    rw [if_neg h1]
    obtain ⟨h2, h3⟩ := not_or.1 h1
    refine ⟨by simpa using h2, by omega, rfl, ?_⟩
    show l.take (r.pos + n) = l.take r.pos ++ (l.drop r.pos).take n
    rw [List.take_add]
theorem number_okR {l : List UInt8} {r : Rr} {n : Nat} (h : (r.number l n).2.bad = false) : r.bad = false ∧ r.pos + n ≤ l.length ∧ (r.number l n).2 = ⟨r.pos + n, false⟩ ∧ l.take (r.pos + n) = l.take r.pos ++ beN n (r.number l n).1 := by
  obtain ⟨h1, h2, h3, h4⟩ := take_okR h
  refine ⟨h1, h2, h3, ?_⟩
  have := beN_beV (r.take l n).1
  rw [take_len] at this
  show _ = _ ++ beN n (beV (r.take l n).1)
  rw [this]
  exact h4
/-- A book that an image can tell. -/
structure Bk.good (k : Bk) : Prop where
  ok : k.ok
  fresh : k.has = false → k.last = 0 ∧ k.ends = []
  last : -9223372036854775808 ≤ k.last ∧ k.last ≤ 9223372036854775807
  ends : ∀ p ∈ k.ends, k.last ≤ p.2 ∧ p.2 ≤ 9223372036854775807
/- A book's image is taken. -/
theorem eins_last {x : List UInt8 × Int} : ∀ {m : Ents}, (∀ p ∈ m, p.1 < x.1) → eins x m = m ++ [x]
  | [], _ => rfl
  | y :: r, h => by
    have hy := h y (List.mem_cons_self ..)
    have hb : ¬ ((Lit.string x.1).before (.string y.1) = true) := fun hb => by
      have h3 : bytesBefore x.1 y.1 = true := hb
      rw [before_lt] at h3
      exact lt_irr _ (List.lt_trans hy (of_decide_eq_true h3))
    rw [eins, if_neg hb, eins_last fun p hp => h p (List.mem_cons_of_mem _ hp)]
    rfl
theorem eput_last {m : Ents} {n : List UInt8} {z : Int} (h : ∀ p ∈ m, p.1 < n) : eput m n z = m ++ [(n, z)] := by
  unfold eput
  have : edel m n = m := List.filter_eq_self.2 fun p hp => by
    have := h p hp
    simp only [Bool.not_eq_true', beq_eq_false_iff_ne, ne_eq]
    exact fun he => lt_irr n (by rw [he] at this; exact this)
  rw [this]
  exact eins_last h
theorem u64_lt256 (z : Int) : u64 z < 256 ^ 8 := u64_lt z
theorem entryR_at {pre rest : List UInt8} {k : Bk} {p : List UInt8 × Int} {first : Bool} {ahead : List UInt8} (hn : p.1.length ≤ 1024) (ho : first = true ∨ ahead < p.1) (hz : k.last ≤ p.2) (hr : -9223372036854775808 ≤ p.2 ∧ p.2 ≤ 9223372036854775807) :
    entryR (pre ++ (ent p ++ rest)) ⟨pre.length, false⟩ k first ahead = (p.1, ⟨(pre ++ ent p).length, false⟩, ⟨k.has, k.last, eput k.ends p.1 p.2⟩) := by
  have e1 : pre ++ (ent p ++ rest) = pre ++ (beN 2 p.1.length ++ (p.1 ++ (beN 8 (u64 p.2) ++ rest))) := by simp [ent]
  have e2 : pre ++ (ent p ++ rest) = (pre ++ beN 2 p.1.length) ++ (p.1 ++ (beN 8 (u64 p.2) ++ rest)) := by simp [ent]
  have e3 : pre ++ (ent p ++ rest) = (pre ++ beN 2 p.1.length ++ p.1) ++ (beN 8 (u64 p.2) ++ rest) := by simp [ent]
  have h1 : Rr.number (pre ++ (ent p ++ rest)) ⟨pre.length, false⟩ 2 = (p.1.length, ⟨pre.length + 2, false⟩) := by
    rw [e1]
    exact number_at (by have : 256 ^ 2 = 65536 := rfl; omega)
  have l2 : (pre ++ beN 2 p.1.length).length = pre.length + 2 := by rw [List.length_append, beN_len]
  have h2 : Rr.take (pre ++ (ent p ++ rest)) ⟨pre.length + 2, false⟩ p.1.length = (p.1, ⟨pre.length + 2 + p.1.length, false⟩) := by
    have := take_at' (pre := pre ++ beN 2 p.1.length) (x := p.1) (rest := beN 8 (u64 p.2) ++ rest)
    rw [l2] at this
    rw [e2]
    exact this
  have l3 : (pre ++ beN 2 p.1.length ++ p.1).length = pre.length + 2 + p.1.length := by rw [List.length_append, l2]
  have h3 : Rr.number (pre ++ (ent p ++ rest)) ⟨pre.length + 2 + p.1.length, false⟩ 8 = (u64 p.2, ⟨pre.length + 2 + p.1.length + 8, false⟩) := by
    have := number_at (pre := pre ++ beN 2 p.1.length ++ p.1) (n := 8) (v := u64 p.2) (rest := rest) (u64_lt256 p.2)
    rw [l3] at this
    rw [e3]
    exact this
  have ho' : (first || gtB p.1 ahead) = true := by
    rw [gtB_eq]
    rcases ho with h | h
    · rw [h]
      rfl
    · rw [decide_eq_true h, Bool.or_true]
  unfold entryR
  dsimp only
  rw [h1]
  dsimp only
  rw [decide_eq_true hn, need_true]
  rw [if_neg (by simp), h2]
  dsimp only
  rw [ho', need_true, h3]
  dsimp only
  rw [toI_u64 hr, decide_eq_true hz, need_true, if_neg (by simp)]
  congr 2
  rw [List.length_append, ent_len]
  congr 1
  omega
theorem entriesR_at {rest : List UInt8} {has : Bool} {last : Int} : ∀ (es : Ents) (pre : List UInt8) (acc : Ents) (ahead : List UInt8), Rise (acc ++ es) → (∀ p ∈ es, p.1.length ≤ 1024 ∧ last ≤ p.2 ∧ -9223372036854775808 ≤ p.2 ∧ p.2 ≤ 9223372036854775807) → (acc = [] ∨ ∃ q, acc.getLast? = some q ∧ q.1 = ahead) →
    entriesR (pre ++ (es.flatMap ent ++ rest)) es.length (decide (acc = [])) ahead ⟨pre.length, false⟩ ⟨has, last, acc⟩ = (⟨(pre ++ es.flatMap ent).length, false⟩, ⟨has, last, acc ++ es⟩)
  | [], pre, acc, ahead, _, _, _ => by simp [entriesR]
  | p :: es, pre, acc, ahead, hr, hp, ha => by
    obtain ⟨h1, h2, h3⟩ := hp p (List.mem_cons_self ..)
    have hacc : ∀ q ∈ acc, q.1 < p.1 := fun q hq => (List.pairwise_append.1 hr).2.2 q hq p (List.mem_cons_self ..)
    have ho : decide (acc = []) = true ∨ ahead < p.1 := by
      rcases ha with h | ⟨q, h, rfl⟩
      · exact .inl (decide_eq_true h)
      · exact .inr (hacc q (List.mem_of_getLast? h))
    have e1 : pre ++ ((p :: es).flatMap ent ++ rest) = pre ++ (ent p ++ (es.flatMap ent ++ rest)) := by simp
    have e2 : pre ++ (ent p ++ (es.flatMap ent ++ rest)) = (pre ++ ent p) ++ (es.flatMap ent ++ rest) := by simp
    have he := entryR_at (pre := pre) (rest := es.flatMap ent ++ rest) (k := ⟨has, last, acc⟩) (p := p) (first := decide (acc = [])) (ahead := ahead) h1 ho h2 h3
    rw [eput_last hacc] at he
    rw [List.length_cons, entriesR, if_neg (by simp), e1, he]
    dsimp only
    have hne : decide (acc ++ [(p.1, p.2)] = []) = false := by simp
    have := entriesR_at (rest := rest) (has := has) (last := last) es (pre ++ ent p) (acc ++ [p]) p.1 (by simpa using hr) (fun q hq => hp q (List.mem_cons_of_mem _ hq)) (.inr ⟨p, by simp, rfl⟩)
    rw [hne.symm.trans (by rfl)] at this
    rw [e2]
    simpa using this
theorem headR_at {k : Bk} (hk : k.good) (rest : List UInt8) : headR (headL k ++ rest) = (k.ends.length, ⟨15, false⟩, ⟨k.has, k.last, []⟩) := by
  have hl := hk.ok.len
  have h0 := hk.last
  have hf := hk.fresh
  have hfl : (flagB k.has).toNat < 2 := by unfold flagB; split <;> decide
  have hfh : decide ((flagB k.has).toNat = 1) = k.has := by cases k.has <;> rfl
  have hb1 : ∀ v : UInt8, beN 1 v.toNat = [v] := fun v => by
    have := beN_beV [v]
    simpa [beV] using this
  have n1 : Rr.number (headL k ++ rest) ⟨0, false⟩ 1 = (82, ⟨1, false⟩) := by
    have := number_at (pre := []) (n := 1) (v := 82) (rest := [1, flagB k.has] ++ beN 8 (u64 k.last) ++ beN 4 k.ends.length ++ rest) (by decide)
    have e : headL k ++ rest = [] ++ (beN 1 82 ++ ([1, flagB k.has] ++ beN 8 (u64 k.last) ++ beN 4 k.ends.length ++ rest)) := by
      rw [show beN 1 82 = [82] from hb1 82]
      simp [headL]
    rw [e]
    exact this
  have n2 : Rr.number (headL k ++ rest) ⟨1, false⟩ 1 = (1, ⟨2, false⟩) := by
    have := number_at (pre := [82]) (n := 1) (v := 1) (rest := [flagB k.has] ++ beN 8 (u64 k.last) ++ beN 4 k.ends.length ++ rest) (by decide)
    have e : headL k ++ rest = [82] ++ (beN 1 1 ++ ([flagB k.has] ++ beN 8 (u64 k.last) ++ beN 4 k.ends.length ++ rest)) := by
      rw [show beN 1 1 = [1] from hb1 1]
      simp [headL]
    rw [e]
    exact this
  have n3 : Rr.number (headL k ++ rest) ⟨2, false⟩ 1 = ((flagB k.has).toNat, ⟨3, false⟩) := by
    have := number_at (pre := [82, 1]) (n := 1) (v := (flagB k.has).toNat) (rest := beN 8 (u64 k.last) ++ beN 4 k.ends.length ++ rest) (by omega)
    have e : headL k ++ rest = [82, 1] ++ (beN 1 (flagB k.has).toNat ++ (beN 8 (u64 k.last) ++ beN 4 k.ends.length ++ rest)) := by
      rw [hb1]
      simp [headL]
    rw [e]
    exact this
  have n4 : Rr.number (headL k ++ rest) ⟨3, false⟩ 8 = (u64 k.last, ⟨11, false⟩) := by
    have := number_at (pre := [82, 1, flagB k.has]) (n := 8) (v := u64 k.last) (rest := beN 4 k.ends.length ++ rest) (u64_lt256 _)
    have e : headL k ++ rest = [82, 1, flagB k.has] ++ (beN 8 (u64 k.last) ++ (beN 4 k.ends.length ++ rest)) := by simp [headL]
    rw [e]
    exact this
  have n5 : Rr.number (headL k ++ rest) ⟨11, false⟩ 4 = (k.ends.length, ⟨15, false⟩) := by
    have := number_at (pre := [82, 1, flagB k.has] ++ beN 8 (u64 k.last)) (n := 4) (v := k.ends.length) (rest := rest) (by have : 256 ^ 4 = 4294967296 := rfl; omega)
    have e : headL k ++ rest = ([82, 1, flagB k.has] ++ beN 8 (u64 k.last)) ++ (beN 4 k.ends.length ++ rest) := by simp [headL]
    have e2 : ([82, 1, flagB k.has] ++ beN 8 (u64 k.last)).length = 11 := by rw [List.length_append, beN_len]; rfl
    rw [e2] at this
    rw [e]
    exact this
  have c1 : Rr.byte (headL k ++ rest) ⟨0, false⟩ 82 82 = (82, ⟨1, false⟩) := by
    unfold Rr.byte
    rw [n1]
    rfl
  have c2 : Rr.byte (headL k ++ rest) ⟨1, false⟩ 1 1 = (1, ⟨2, false⟩) := by
    unfold Rr.byte
    rw [n2]
    rfl
  have c3 : Rr.byte (headL k ++ rest) ⟨2, false⟩ 0 1 = ((flagB k.has).toNat, ⟨3, false⟩) := by
    unfold Rr.byte
    rw [n3]
    dsimp only
    rw [decide_eq_true (Nat.zero_le _), decide_eq_true (show (flagB k.has).toNat ≤ 1 by omega), Bool.and_true, need_true]
  have d1 : (k.has || decide (k.last = 0)) = true := by
    cases hh : k.has with
    | true => rfl
    | false => rw [decide_eq_true (hf hh).1]; rfl
  have d2 : (decide (k.ends.length = 0) || (decide (k.ends.length ≤ 4096) && k.has)) = true := by
    cases hh : k.has with
    | true => rw [decide_eq_true hl]; simp
    | false => rw [(hf hh).2]; rfl
  unfold headR
  dsimp only
  rw [c1]
  dsimp only
  rw [c2]
  dsimp only
  rw [c3]
  dsimp only
  rw [hfh, n4]
  dsimp only
  rw [toI_u64 h0, d1, need_true, n5]
  dsimp only
  rw [d2, need_true]
/-- A book's image is taken; with more behind it, it is not. -/
theorem openM_image {k : Bk} (hk : k.good) (x : List UInt8) : openM (imageL k ++ x) = if x = [] then (some k, 0) else (none, (imageL k).length) := by
  have e1 : imageL k ++ x = headL k ++ (k.ends.flatMap ent ++ (beN 8 (fnv (bodyL k)) ++ x)) := by simp [imageL, bodyL]
  have e2 : imageL k ++ x = bodyL k ++ (beN 8 (fnv (bodyL k)) ++ x) := by simp [imageL]
  have hh := headR_at hk (k.ends.flatMap ent ++ (beN 8 (fnv (bodyL k)) ++ x))
  have hes := entriesR_at (rest := beN 8 (fnv (bodyL k)) ++ x) (has := k.has) (last := k.last) k.ends (headL k) [] [] (by simpa using hk.ok.rise) (fun p hp => ⟨hk.ok.name p hp, (hk.ends p hp).1, by have := hk.ends p hp; have := hk.last; omega, (hk.ends p hp).2⟩) (.inl rfl)
  rw [headL_len] at hes
  have hn : Rr.number (bodyL k ++ (beN 8 (fnv (bodyL k)) ++ x)) ⟨(bodyL k).length, false⟩ 8 = (fnv (bodyL k), ⟨(bodyL k).length + 8, false⟩) := number_at (fnv_lt (bodyL k))
  have e3 : headL k ++ k.ends.flatMap ent = bodyL k := rfl
  rw [e3] at hes
  unfold openM
  rw [e1, hh]
  dsimp only
  have e4 : entriesR (headL k ++ (k.ends.flatMap ent ++ (beN 8 (fnv (bodyL k)) ++ x))) k.ends.length true [] ⟨15, false⟩ ⟨k.has, k.last, []⟩ = (⟨(bodyL k).length, false⟩, k) := by
    have : decide (([] : Ents) = []) = true := rfl
    rw [this] at hes
    rw [hes]
    rfl
  rw [e4]
  dsimp only
  rw [← e1, e2, hn]
  dsimp only
  have e5 : decide (fnv (bodyL k) = fnv ((bodyL k ++ (beN 8 (fnv (bodyL k)) ++ x)).take (bodyL k).length)) = true := by
    rw [List.take_left]
    generalize fnv (bodyL k) = v
    exact decide_eq_true rfl
  rw [e5, Bool.or_true, need_true]
  dsimp only
  rw [image_len]
  cases x with
  | nil => simp [beN_len]
  | cons y x =>
    rw [if_pos (.inr (by simp [beN_len])), if_neg (by simp)]
/- What is taken is an image. -/
theorem byte_okR {l : List UInt8} {r : Rr} {lo hi : Nat} (h : (r.byte l lo hi).2.bad = false) : r.bad = false ∧ r.pos + 1 ≤ l.length ∧ (r.byte l lo hi).2 = ⟨r.pos + 1, false⟩ ∧ l.take (r.pos + 1) = l.take r.pos ++ beN 1 (r.byte l lo hi).1 ∧ lo ≤ (r.byte l lo hi).1 ∧ (r.byte l lo hi).1 ≤ hi := by
  unfold Rr.byte at h ⊢
  obtain ⟨h1, h2, h3⟩ := need_ok h
  obtain ⟨h4, h5, h6, h7⟩ := number_okR h1
  dsimp only
  rw [h3]
  simp only [Bool.and_eq_true, decide_eq_true_eq] at h2
  exact ⟨h4, h5, h6, h7, h2.1, h2.2⟩
theorem entryR_ok {l : List UInt8} {r : Rr} {k : Bk} {first : Bool} {ahead : List UInt8} (h : (entryR l r k first ahead).2.1.bad = false) :
    r.bad = false ∧ ∃ p : List UInt8 × Int, p.1.length ≤ 1024 ∧ (first = true ∨ ahead < p.1) ∧ k.last ≤ p.2 ∧ p.2 ≤ 9223372036854775807 ∧ (entryR l r k first ahead).1 = p.1 ∧ (entryR l r k first ahead).2.2 = ⟨k.has, k.last, eput k.ends p.1 p.2⟩ ∧
      (entryR l r k first ahead).2.1.pos ≤ l.length ∧ l.take (entryR l r k first ahead).2.1.pos = l.take r.pos ++ ent p := by
  unfold entryR at h ⊢
  dsimp only at h ⊢
  split at h
  · rename_i h1
    rw [h1] at h
    cases h
  rename_i h1
  rw [if_neg h1]
  rw [Bool.not_eq_true] at h1
  obtain ⟨a1, a2, a3⟩ := need_ok h1
  rw [a3] at h ⊢
  obtain ⟨b1, b2, b3, b4⟩ := number_okR a1
  have hv2 := number_lt256 (l := l) (r := r) (n := 2)
  generalize (r.number l 2).1 = v at *
  generalize (r.number l 2).2 = r2 at *
  subst b3
  split at h
  · rename_i h2
    rw [h2] at h
    cases h
  rename_i h2
  rw [if_neg h2]
  rw [Bool.not_eq_true] at h2
  obtain ⟨c1, c2, c3⟩ := need_ok h2
  dsimp only
  rw [c3]
  have hv8 := number_lt (l := l) (r := (Rr.take l ⟨r.pos + 2, false⟩ v).2.need (first || gtB (Rr.take l ⟨r.pos + 2, false⟩ v).1 ahead) v) (n := 8) (by omega)
  obtain ⟨d1, d2, d3, d4⟩ := number_okR c1
  obtain ⟨e1, e2, e3⟩ := need_ok d1
  rw [e3] at d2 d3 d4 c2 hv8 ⊢
  obtain ⟨f1, f2, f3, f4⟩ := take_okR e1
  have hnl : (Rr.take l ⟨r.pos + 2, false⟩ v).1.length = v := take_len
  generalize (Rr.take l ⟨r.pos + 2, false⟩ v).1 = name at *
  generalize (Rr.take l ⟨r.pos + 2, false⟩ v).2 = r3 at *
  subst f3
  dsimp only at *
  generalize (Rr.number l ⟨r.pos + 2 + v, false⟩ 8).1 = w at *
  generalize (Rr.number l ⟨r.pos + 2 + v, false⟩ 8).2 = r4 at *
  subst d3
  dsimp only at *
  refine ⟨b1, (name, toI w), ?_, ?_, of_decide_eq_true c2, (toI_range hv8).2, rfl, rfl, d2, ?_⟩
  · show name.length ≤ 1024
    have := of_decide_eq_true a2
    omega
  · rw [gtB_eq] at e2
    simpa using e2
  · rw [d4, f4, b4]
    show _ = _ ++ ent (name, toI w)
    unfold ent
    dsimp only
    rw [u64_toI hv8, hnl]
    simp
theorem entriesR_ok {l : List UInt8} : ∀ (m : Nat) (first : Bool) (ahead : List UInt8) (r : Rr) (k : Bk), r.pos ≤ l.length → (entriesR l m first ahead r k).1.bad = false → Rise k.ends → (first = true → k.ends = []) → (first = false → ∀ q ∈ k.ends, q.1 ≤ ahead) →
    r.bad = false ∧ ∃ es : Ents, es.length = m ∧ (entriesR l m first ahead r k).2 = ⟨k.has, k.last, k.ends ++ es⟩ ∧ Rise (k.ends ++ es) ∧ (∀ p ∈ es, p.1.length ≤ 1024 ∧ k.last ≤ p.2 ∧ p.2 ≤ 9223372036854775807) ∧ (entriesR l m first ahead r k).1.pos ≤ l.length ∧ l.take (entriesR l m first ahead r k).1.pos = l.take r.pos ++ es.flatMap ent
  | 0, first, ahead, r, k, hp, h, hr, _, _ => ⟨h, [], rfl, by simp [entriesR], by simpa using hr, fun p hp => absurd hp List.not_mem_nil, hp, by simp [entriesR]⟩
  | m + 1, first, ahead, r, k, hp, h, hr, h0, h1 => by
    unfold entriesR at h ⊢
    split at h
    · rename_i hb
      rw [hb] at h
      cases h
    rename_i hb
    rw [if_neg hb]
    have hb1 : (entryR l r k first ahead).2.1.bad = false := by
      cases m with
      | zero => exact h
      | succ m =>
        unfold entriesR at h
        split at h
        · rename_i h2
          rw [h2] at h
          cases h
        · rename_i h2
          simpa using h2
    obtain ⟨a1, p, a2, a3, a4, a5, a6, a7, a8, a9⟩ := entryR_ok hb1
    have hlt : ∀ q ∈ k.ends, q.1 < p.1 := fun q hq => by
      cases first with
      | true => rw [h0 rfl] at hq; cases hq
      | false => exact List.lt_of_le_of_lt (h1 rfl q hq) (a3.resolve_left (by simp))
    rw [eput_last hlt] at a7
    have hr2 : Rise (k.ends ++ [(p.1, p.2)]) := List.pairwise_append.2 ⟨hr, List.pairwise_singleton _ _, fun q hq x hx => by
      rw [List.mem_singleton] at hx
      subst hx
      exact hlt q hq⟩
    have ih := entriesR_ok m false (entryR l r k first ahead).1 (entryR l r k first ahead).2.1 (entryR l r k first ahead).2.2 a8 h (by rw [a7]; exact hr2) (fun h => by cases h) (fun _ q hq => by
      rw [a7] at hq
      rw [a6]
      rcases List.mem_append.1 hq with hq | hq
      · exact List.le_of_lt (hlt q hq)
      · rw [List.mem_singleton] at hq
        subst hq
        exact List.le_refl _)
    obtain ⟨_, es, b1, b2, b3, b4, b5, b6⟩ := ih
    refine ⟨a1, p :: es, by rw [List.length_cons, b1], ?_, ?_, ?_, b5, ?_⟩
    · rw [b2, a7]
      simp
    · rw [a7] at b3
      simpa using b3
    · intro x hx
      rw [a7] at b4
      rcases List.mem_cons.1 hx with rfl | hx
      · exact ⟨a2, a4, a5⟩
      · exact b4 x hx
    · rw [b6, a9]
      simp
theorem one_byte {v : Nat} (h : v < 256) : beN 1 v = [UInt8.ofNat v] := by
  unfold beN
  simp
  rw [Nat.mod_eq_of_lt h]
theorem headR_pos (l : List UInt8) : (headR l).2.1.pos ≤ l.length := by
  unfold headR
  exact need_le (number_pos (need_le (number_pos (byte_pos (byte_pos (byte_pos (Nat.zero_le _)))))))
theorem flag_of {v : Nat} (h : v ≤ 1) : beN 1 v = [flagB (decide (v = 1))] := by
  have : v = 0 ∨ v = 1 := by omega
  rcases this with rfl | rfl <;> rfl
theorem headR_ok {l : List UInt8} (h : (headR l).2.1.bad = false) : 15 ≤ l.length ∧ (headR l).2.1 = ⟨15, false⟩ ∧ (headR l).2.2.ends = [] ∧ l.take 15 = [82, 1, flagB (headR l).2.2.has] ++ beN 8 (u64 (headR l).2.2.last) ++ beN 4 (headR l).1 ∧
    (-9223372036854775808 ≤ (headR l).2.2.last ∧ (headR l).2.2.last ≤ 9223372036854775807) ∧ ((headR l).2.2.has = false → (headR l).2.2.last = 0 ∧ (headR l).1 = 0) ∧ (headR l).1 ≤ 4096 := by
  unfold headR at h ⊢
  dsimp only at h ⊢
  obtain ⟨a1, a2, a3⟩ := need_ok h
  rw [a3]
  obtain ⟨b1, b2, b3, b4⟩ := number_okR a1
  obtain ⟨c1, c2, c3⟩ := need_ok b1
  rw [c3] at a1 a2 b2 b3 b4 ⊢
  have hv4 := number_lt (l := l) (r := (((Rr.byte l ⟨0, false⟩ 82 82).2.byte l 1 1).2.byte l 0 1).2) (n := 8) (by omega)
  obtain ⟨d1, d2, d3, d4⟩ := number_okR c1
  obtain ⟨e1, e2, e3, e4, e5, e6⟩ := byte_okR d1
  obtain ⟨f1, f2, f3, f4, f5, f6⟩ := byte_okR e1
  obtain ⟨g1, g2, g3, g4, g5, g6⟩ := byte_okR f1
  generalize (Rr.byte l ⟨0, false⟩ 82 82).1 = v1 at *
  generalize (Rr.byte l ⟨0, false⟩ 82 82).2 = s1 at *
  generalize (s1.byte l 1 1).1 = v2 at *
  generalize (s1.byte l 1 1).2 = s2 at *
  generalize (s2.byte l 0 1).1 = v3 at *
  generalize (s2.byte l 0 1).2 = s3 at *
  generalize (s3.number l 8).1 = v4 at *
  generalize (s3.number l 8).2 = s4 at *
  generalize (s4.number l 4).1 = v5 at *
  generalize (s4.number l 4).2 = s5 at *
  subst g3
  dsimp only at *
  subst f3
  dsimp only at *
  subst e3
  dsimp only at *
  subst d3
  dsimp only at *
  subst b3
  dsimp only at *
  have hq1 : v1 = 82 := by omega
  have hq2 : v2 = 1 := by omega
  subst hq1 hq2
  simp only [Bool.or_eq_true, Bool.and_eq_true, decide_eq_true_eq] at a2 c2
  refine ⟨by omega, rfl, rfl, ?_, toI_range hv4, ?_, by omega⟩
  · rw [show (15 : Nat) = 0 + 1 + 1 + 1 + 8 + 4 from rfl, b4, d4, e4, f4, g4, flag_of e6, u64_toI hv4]
    rfl
  · intro hf
    have := of_decide_eq_false hf
    omega
/-- What is taken is its book's image. -/
theorem openM_ok {l : List UInt8} {k : Bk} {p : Nat} (h : openM l = (some k, p)) : p = 0 ∧ imageL k = l ∧ k.good := by
  unfold openM at h
  dsimp only at h
  split at h
  · simp at h
  rename_i h1
  simp only [Prod.mk.injEq, Option.some.injEq] at h
  obtain ⟨h2, h3⟩ := h
  obtain ⟨h4, h5⟩ := not_or.1 h1
  rw [Bool.not_eq_true] at h4
  obtain ⟨a1, a2, a3⟩ := need_ok h4
  rw [a3] at h5
  obtain ⟨b1, b2, b3, b4⟩ := number_okR a1
  rw [a1, Bool.false_or] at a2
  have a2' := of_decide_eq_true a2
  clear a2 a3 h4 h1
  rw [b3] at h5
  dsimp only at h5
  have hpos := headR_pos l
  have hbad : (headR l).2.1.bad = false := by
    have hb := b1
    cases hm : (headR l).1 with
    | zero =>
      rw [hm] at hb
      exact hb
    | succ m =>
      rw [hm] at hb
      unfold entriesR at hb
      split at hb
      · rename_i h6
        rw [h6] at hb
        cases hb
      · rename_i h6
        simpa using h6
  obtain ⟨c1, c2, c3, c4, c5, c6, c7⟩ := headR_ok hbad
  obtain ⟨d0, es, d1, d2, d3, d4, d5, d6⟩ := entriesR_ok _ _ _ _ _ hpos b1 (by rw [c3]; exact List.Pairwise.nil) (fun _ => c3) (fun h => by cases h)
  rw [c3, List.nil_append] at d2 d3
  rw [h2] at d2
  generalize (entriesR l (headR l).1 true [] (headR l).2.1 (headR l).2.2).1 = r at *
  rw [c2] at d6
  dsimp only at d6
  rw [c4] at d6
  have hall : l = l.take (r.pos + 8) := by rw [List.take_of_length_le (by omega)]
  subst d2
  have hbody : bodyL ⟨(headR l).2.2.has, (headR l).2.2.last, es⟩ = l.take r.pos := by
    rw [d6]
    unfold bodyL headL
    dsimp only
    rw [d1]
  refine ⟨h3.symm, ?_, ⟨?_, ?_, ?_⟩, ?_, c5, ?_⟩
  · unfold imageL
    rw [hbody, ← a2', ← b4, ← hall]
  · show es.length ≤ 4096
    omega
  · exact fun p hp => (d4 p hp).1
  · exact d3
  · intro hf
    obtain ⟨g1, g2⟩ := c6 hf
    exact ⟨g1, List.eq_nil_of_length_eq_zero (by rw [d1, g2])⟩
  · exact fun p hp => (d4 p hp).2
theorem entriesR_pos {l : List UInt8} : ∀ (m : Nat) (first : Bool) (ahead : List UInt8) (r : Rr) (k : Bk), r.pos ≤ l.length → (entriesR l m first ahead r k).1.pos ≤ l.length
  | 0, _, _, _, _, h => h
  | m + 1, first, ahead, r, k, h => by
    unfold entriesR
    split
    · exact h
    · exact entriesR_pos m _ _ _ _ (entry_pos h)
/-- The place of what cannot be lies in the bytes. -/
theorem openM_place (l : List UInt8) : (openM l).2 ≤ l.length := by
  unfold openM
  dsimp only
  split
  · exact need_le (number_pos (entriesR_pos _ _ _ _ _ (headR_pos l)))
  · exact Nat.zero_le _
theorem openM_some {k : Bk} (hk : k.good) : openM (imageL k) = (some k, 0) := by
  have := openM_image hk []
  rw [List.append_nil, if_pos rfl] at this
  exact this
/-- No shorter beginning of an image is one. -/
theorem openM_cut {k : Bk} (hk : k.good) {n : Nat} (hn : n < (imageL k).length) : (openM ((imageL k).take n)).1 = none := by
  cases h : openM ((imageL k).take n) with
  | mk a p =>
    cases a with
    | none => rfl
    | some k2 =>
      obtain ⟨-, h2, h3⟩ := openM_ok h
      have h4 := openM_image h3 ((imageL k).drop n)
      rw [h2, List.take_append_drop, openM_some hk, if_neg (by
        intro h5
        have := congrArg List.length h5
        rw [List.length_drop, List.length_nil] at this
        omega)] at h4
      simp at h4
/- A byte that is another one. -/
theorem inv_mod {x M P Q : Nat} (hx : x < M) (h : P * Q % M = 1) : x * P % M * Q % M = x := by
  have e1 : x * P % M * Q % M = x * P * Q % M := by rw [Nat.mul_mod (x * P % M) Q, Nat.mod_mod, ← Nat.mul_mod]
  have e2 : x * P * Q % M = x := by rw [Nat.mul_assoc, Nat.mul_mod, h, Nat.mul_one, Nat.mod_mod, Nat.mod_eq_of_lt hx]
  rw [e1, e2]
theorem fnv_step_inj {h1 h2 c : Nat} (a1 : h1 < 18446744073709551616) (a2 : h2 < 18446744073709551616) (hc : c < 256) (h : (h1 ^^^ c) * 1099511628211 % 18446744073709551616 = (h2 ^^^ c) * 1099511628211 % 18446744073709551616) : h1 = h2 := by
  have b1 : h1 ^^^ c < 18446744073709551616 := Nat.xor_lt_two_pow (n := 64) a1 (by omega)
  have b2 : h2 ^^^ c < 18446744073709551616 := Nat.xor_lt_two_pow (n := 64) a2 (by omega)
  have e : h1 ^^^ c = h2 ^^^ c := by
    generalize h1 ^^^ c = x at *
    generalize h2 ^^^ c = y at *
    have m1 : x * 1099511628211 % 18446744073709551616 * 14886173955864302971 % 18446744073709551616 = x := inv_mod b1 (by decide)
    have m2 : y * 1099511628211 % 18446744073709551616 * 14886173955864302971 % 18446744073709551616 = y := inv_mod b2 (by decide)
    rw [← m1, h, m2]
  have := congrArg (· ^^^ c) e
  simpa [Nat.xor_assoc] using this
def fstep (h : Nat) (c : UInt8) : Nat := (h ^^^ c.toNat) * 1099511628211 % 18446744073709551616
theorem fstep_lt (h : Nat) (c : UInt8) : fstep h c < 18446744073709551616 := Nat.mod_lt _ (by decide)
theorem fold_inj : ∀ (t : List UInt8) {a b : Nat}, a < 18446744073709551616 → b < 18446744073709551616 → t.foldl fstep a = t.foldl fstep b → a = b
  | [], _, _, _, _, h => h
  | c :: t, a, b, ha, hb, h => fnv_step_inj ha hb c.toNat_lt (fold_inj t (fstep_lt a c) (fstep_lt b c) h)
theorem fstep_byte {h : Nat} {c d : UInt8} (hh : h < 18446744073709551616) (he : fstep h c = fstep h d) : c = d := by
  have hc := c.toNat_lt
  have hd := d.toNat_lt
  unfold fstep at he
  have b1 : h ^^^ c.toNat < 18446744073709551616 := Nat.xor_lt_two_pow (n := 64) hh (by omega)
  have b2 : h ^^^ d.toNat < 18446744073709551616 := Nat.xor_lt_two_pow (n := 64) hh (by omega)
  have e : h ^^^ c.toNat = h ^^^ d.toNat := by
    generalize h ^^^ c.toNat = x at *
    generalize h ^^^ d.toNat = y at *
    have m1 : x * 1099511628211 % 18446744073709551616 * 14886173955864302971 % 18446744073709551616 = x := inv_mod b1 (by decide)
    have m2 : y * 1099511628211 % 18446744073709551616 * 14886173955864302971 % 18446744073709551616 = y := inv_mod b2 (by decide)
    rw [← m1, he, m2]
  have := congrArg (h ^^^ ·) e
  simp only [← Nat.xor_assoc, Nat.xor_self, Nat.zero_xor] at this
  exact UInt8.toNat_inj.1 this
theorem fnv_fold (l : List UInt8) : fnv l = l.foldl fstep 14695981039346656037 := rfl
theorem fold_lt (l : List UInt8) : l.foldl fstep 14695981039346656037 < 18446744073709551616 := fnv_lt l
theorem fnv_change {a t : List UInt8} {c d : UInt8} (h : fnv (a ++ c :: t) = fnv (a ++ d :: t)) : c = d := by
  rw [fnv_fold, fnv_fold, List.foldl_append, List.foldl_append, List.foldl_cons, List.foldl_cons] at h
  exact fstep_byte (fold_lt a) (fold_inj t (fstep_lt _ _) (fstep_lt _ _) h)
theorem set_parts {l : List UInt8} {i : Nat} (h : i < l.length) (b : UInt8) : l.set i b = l.take i ++ b :: l.drop (i + 1) := by
  rw [List.set_eq_take_append_cons_drop, if_pos h]
theorem self_parts {l : List UInt8} {i : Nat} (h : i < l.length) : l = l.take i ++ l[i] :: l.drop (i + 1) := by
  rw [← List.drop_eq_getElem_cons h, List.take_append_drop]
theorem beN8_inj {a b : List UInt8} (h : beN 8 (fnv a) = beN 8 (fnv b)) : fnv a = fnv b := by
  have := congrArg beV h
  rw [beV_beN, beV_beN] at this
  have e : 256 ^ 8 = 18446744073709551616 := by decide
  rw [e, Nat.mod_eq_of_lt (fnv_lt a), Nat.mod_eq_of_lt (fnv_lt b)] at this
  exact this
/-- An image with one byte that is another one is no image. -/
theorem openM_change {k : Bk} {i : Nat} {b : UInt8} (hi : i < (imageL k).length) (hb : (imageL k)[i]? ≠ some b) : (openM ((imageL k).set i b)).1 = none := by
  cases h : openM ((imageL k).set i b) with
  | mk a p =>
    cases a with
    | none => rfl
    | some k2 =>
      exfalso
      obtain ⟨-, h2, -⟩ := openM_ok h
      have hl := congrArg List.length h2
      rw [List.length_set, image_len, image_len] at hl
      have hm : (bodyL k2).length = (bodyL k).length := by omega
      rw [image_len] at hi
      by_cases him : i < (bodyL k).length
      · have e1 : (imageL k).set i b = (bodyL k).set i b ++ beN 8 (fnv (bodyL k)) := by
          unfold imageL
          rw [List.set_append_left _ _ him]
        rw [e1] at h2
        unfold imageL at h2
        obtain ⟨h3, h4⟩ := List.append_inj h2 (by rw [List.length_set]; exact hm)
        rw [h3] at h4
        have h5 := beN8_inj h4
        rw [set_parts him] at h5
        have h6 := self_parts him
        rw [h6] at h5
        have h7 : fnv ((bodyL k).take i ++ b :: (bodyL k).drop (i + 1)) = fnv ((bodyL k).take i ++ (bodyL k)[i] :: (bodyL k).drop (i + 1)) := by
          rw [← h6]
          rw [← h6] at h5
          exact h5
        refine hb ?_
        unfold imageL
        rw [List.getElem?_append_left him, List.getElem?_eq_getElem him, fnv_change h7]
      · have e1 : (imageL k).set i b = bodyL k ++ (beN 8 (fnv (bodyL k))).set (i - (bodyL k).length) b := by
          unfold imageL
          rw [List.set_append_right _ _ (by omega)]
        rw [e1] at h2
        unfold imageL at h2
        obtain ⟨h3, h4⟩ := List.append_inj h2 hm
        rw [h3] at h4
        have h5 : (beN 8 (fnv (bodyL k)))[i - (bodyL k).length]? = some b := by
          have hlt : i - (bodyL k).length < (beN 8 (fnv (bodyL k))).length := by rw [beN_len]; omega
          have h6 : (beN 8 (fnv (bodyL k)))[i - (bodyL k).length]? = ((beN 8 (fnv (bodyL k))).set (i - (bodyL k).length) b)[i - (bodyL k).length]? := by rw [← h4]
          rw [List.getElem?_set_self hlt] at h6
          exact h6
        refine hb ?_
        unfold imageL
        rw [List.getElem?_append_right (by omega)]
        exact h5
theorem new_good : Bk.good ⟨false, 0, []⟩ := ⟨new_ok, fun _ => ⟨rfl, rfl⟩, by decide, fun p hp => absurd hp List.not_mem_nil⟩
theorem take_good {k : Bk} (hk : k.good) (n : List UInt8) {til now : Int} (ht : (Lit.int .i64 til).wf = true) (hn : (Lit.int .i64 now).wf = true) : (k.take n til now).2.good := by
  have ho := take_ok hk.ok n til now
  rw [wf_i64] at ht hn
  have hlive : ∀ p ∈ live now k.ends, now ≤ p.2 ∧ p.2 ≤ 9223372036854775807 := fun p hp => by
    obtain ⟨h1, h2⟩ := List.mem_filter.1 hp
    exact ⟨of_decide_eq_true h2, (hk.ends p h1).2⟩
  unfold Bk.take at ho ⊢
  split
  · exact hk
  split
  · exact hk
  rename_i h1 h2
  rw [if_neg h1, if_neg h2] at ho
  split
  · rename_i h3
    rw [if_pos h3] at ho
    exact ⟨ho, fun h => (by cases h), hn, hlive⟩
  rename_i h3
  rw [if_neg h3] at ho
  split
  · rename_i h4
    rw [if_pos h4] at ho
    exact ⟨ho, fun h => (by cases h), hn, hlive⟩
  rename_i h4
  rw [if_neg h4] at ho
  split
  · rename_i h5
    rw [if_pos h5] at ho
    exact ⟨ho, fun h => (by cases h), hn, hlive⟩
  rename_i h5
  rw [if_neg h5] at ho
  refine ⟨ho, fun h => (by cases h), hn, fun p hp => ?_⟩
  rcases eins_mem.1 hp with rfl | hp
  · exact ⟨by show now ≤ til; omega, ht.2⟩
  · exact hlive p (List.mem_filter.1 hp).1
end Go.Proofs.Ytcojlgkfkifhmaa
