/- Stored blocks unfold to what they hold; zlib's frame around one; a byte that is another one is told. -/
import Derived.Test.YtjhpbljkpbdnnaaDoorInfR
namespace Infl
def hdr (fl : UInt8) (n : Nat) : List UInt8 := [fl, UInt8.ofNat (n % 256), UInt8.ofNat (n / 256), UInt8.ofNat (255 - n % 256), UInt8.ofNat (255 - n / 256)]
theorem hdr_len (fl : UInt8) (n : Nat) : (hdr fl n).length = 5 := rfl
theorem rd16 (b : List UInt8) (a : Nat) : rdN b 16 (8 * a) = if a + 2 ≤ b.length then some ((b.getD a 0).toNat + 256 * (b.getD (a + 1) 0).toNat, 8 * (a + 2)) else none := by
  have h : num b (8 * a) 16 = (b.getD a 0).toNat + 256 * (b.getD (a + 1) 0).toNat := by
    rw [show 16 = 8 + 8 from rfl, num_add, num_byte, show 8 * a + 8 = 8 * (a + 1) by omega, num_byte]
  unfold rdN
  by_cases hc : a + 2 ≤ b.length
  · rw [if_pos (by omega), if_pos hc, h]; rfl
  · rw [if_neg (by omega), if_neg hc]
theorem drop_at {b t : List UInt8} {a : Nat} (h : b.drop a = t) (i : Nat) : b.getD (a + i) 0 = t.getD i 0 := by
  subst h
  simp [List.getD, List.getElem?_drop]
theorem drop_len {b t : List UInt8} {a : Nat} {x : UInt8} (h : b.drop a = x :: t) : b.length = a + 1 + t.length := by
  have := congrArg List.length h
  simp only [List.length_drop, List.length_cons] at this
  omega
theorem rawL_all {b : List UInt8} {m : Nat} {post : List UInt8} : ∀ {data : List UInt8} {at_ : Nat} {out : List UInt8}, b.drop at_ = data ++ post → out.length ≤ m → rawL b m data.length at_ out = if out.length + data.length ≤ m then .ok (8 * (at_ + data.length), out ++ data) else .error 10
  | [], at_, out, h, hm => by simp [rawL, hm]
  | x :: data, at_, out, h, hm => by
    have hl := drop_len h
    have hx := drop_at h 0
    rw [List.length_cons, rawL, if_neg (by omega)]
    simp only [Nat.add_zero, List.cons_append, List.getD_cons_zero] at hx
    rw [hx]
    unfold put
    by_cases hc : out.length = m
    · rw [if_pos hc, if_neg (by omega)]
    · rw [if_neg hc]
      simp only
      rw [rawL_all (data := data) (by
        have : b.drop (at_ + 1) = (b.drop at_).drop 1 := by rw [List.drop_drop]
        rw [this, h]; rfl) (by simp; omega)]
      simp only [List.length_append, List.length_cons, List.length_nil, List.append_assoc, List.cons_append, List.nil_append]
      by_cases h2 : out.length + (data.length + 1) ≤ m
      · rw [if_pos h2, if_pos (by omega)]
        congr 2
        omega
      · rw [if_neg h2, if_neg (by omega)]
theorem raw_all {b : List UInt8} {m a : Nat} {fl : UInt8} {data post out : List UInt8} (h : b.drop a = hdr fl data.length ++ (data ++ post)) (hn : data.length ≤ 65535) (hm : out.length ≤ m) :
    raw b m (8 * a + 3) out = if out.length + data.length ≤ m then .ok (8 * (a + 5 + data.length), out ++ data) else .error 10 := by
  have hl := drop_len (x := fl) (t := (hdr fl data.length).drop 1 ++ (data ++ post)) h
  simp only [List.length_append, hdr, List.drop_succ_cons, List.drop_zero, List.length_cons, List.length_nil] at hl
  have e : ∀ i, b.getD (a + i) 0 = _ := drop_at h
  unfold raw
  rw [show (8 * a + 3 + 7) / 8 = a + 1 by omega, rd16, if_pos (by omega)]
  simp only
  rw [rd16, if_pos (by omega)]
  simp only
  have e1 := e 1
  have e2 := e 2
  have e3 := e 3
  have e4 := e 4
  simp only [hdr, List.cons_append, List.getD_cons_zero, List.getD_cons_succ] at e1 e2 e3 e4
  rw [show a + 1 + 1 = a + 2 by omega, show a + 1 + 2 = a + 3 by omega, show a + 3 + 1 = a + 4 by omega, e1, e2, e3, e4]
  have t : ∀ x, x < 256 → (UInt8.ofNat x).toNat = x := fun x hx => by simp; omega
  rw [t _ (by omega), t _ (by omega), t _ (by omega), t _ (by omega), if_pos (by omega)]
  rw [show data.length % 256 + 256 * (data.length / 256) = data.length by omega, show 8 * (a + 3 + 2) / 8 = a + 5 by omega]
  refine rawL_all (post := post) ?_ hm
  have : b.drop (a + 5) = (b.drop a).drop 5 := by rw [List.drop_drop]
  rw [this, h]
  rfl
theorem rd_head {b : List UInt8} {a : Nat} {fl : UInt8} {t : List UInt8} (h : b.drop a = fl :: t) (hf : fl.toNat < 2) : rdN b 1 (8 * a) = some (fl.toNat, 8 * a + 1) ∧ rdN b 2 (8 * a + 1) = some (0, 8 * a + 3) := by
  have hl := drop_len h
  have e := drop_at h 0
  rw [Nat.add_zero, List.getD_cons_zero] at e
  have h1 := num_mod b (8 * a) (k := 3) (n := 8) (by omega)
  have h2 := num_add b (8 * a) 1 2
  have h3 := num_mod b (8 * a) (k := 1) (n := 3) (by omega)
  rw [num_byte, e] at h1
  simp only [Nat.reduceAdd, Nat.reducePow] at h1 h2 h3
  unfold rdN
  refine ⟨?_, ?_⟩
  · rw [if_pos (by omega)]
    have : num b (8 * a) 1 = fl.toNat := by omega
    rw [this]
  · rw [if_pos (by omega)]
    have : num b (8 * a + 1) 2 = 0 := by omega
    rw [this]
/-- All of it is read as stored blocks that are not the last one, k of them, and gives d. -/
def Reads (all d : List UInt8) (k : Nat) : Prop := k ≤ all.length ∧ ∀ (post : List UInt8) (m f : Nat), blocksL (all ++ post) m (f + k) 0 [] = if d.length ≤ m then blocksL (all ++ post) m f (8 * all.length) d else .error 10
theorem reads_nil : Reads [] [] 0 := ⟨by simp, fun post m f => by simp⟩
theorem reads_more {all d data : List UInt8} {k : Nat} (h : Reads all d k) (hn : data.length ≤ 65535) : Reads (all ++ (hdr 0 data.length ++ data)) (d ++ data) (k + 1) := by
  refine ⟨by have := h.1; simp [hdr_len]; omega, fun post m f => ?_⟩
  have hd : ((all ++ (hdr 0 data.length ++ data)) ++ post).drop all.length = hdr 0 data.length ++ (data ++ post) := by simp
  have hr := rd_head (fl := 0) (t := (hdr 0 data.length).drop 1 ++ (data ++ post)) hd (by decide)
  have h2 := h.2 ((hdr 0 data.length ++ data) ++ post) m (f + 1)
  rw [show f + (k + 1) = f + 1 + k by omega, List.append_assoc, h2, ← List.append_assoc]
  by_cases hc : d.length ≤ m
  · have hw := raw_all hd hn hc
    rw [if_pos hc, blocksL, hr.1]
    simp only
    rw [hr.2]
    simp only [kindB, if_true]
    rw [hw, List.length_append]
    by_cases h3 : d.length + data.length ≤ m
    · rw [if_pos h3, if_pos h3]
      simp only
      rw [if_pos (by decide), show 8 * (all ++ (hdr 0 data.length ++ data)).length = 8 * (all.length + 5 + data.length) by simp [hdr_len]; omega]
    · rw [if_neg h3, if_neg h3]
  · rw [if_neg hc, if_neg (by simp; omega)]
/-- A last stored block ends it; whatever stands behind. -/
theorem reads_end {all d data : List UInt8} {k : Nat} (h : Reads all d k) (hn : data.length ≤ 65535) (post : List UInt8) (m : Nat) :
    infl (all ++ (hdr 1 data.length ++ data) ++ post) m = if d.length + data.length ≤ m then (d ++ data, all.length + 5 + data.length, 0) else ([], 0, 10) := by
  have hd : ((all ++ (hdr 1 data.length ++ data)) ++ post).drop all.length = hdr 1 data.length ++ (data ++ post) := by simp
  have hr := rd_head (fl := 1) (t := (hdr 1 data.length).drop 1 ++ (data ++ post)) hd (by decide)
  obtain ⟨f, hf⟩ : ∃ f, 8 * ((all ++ (hdr 1 data.length ++ data)) ++ post).length + 1 = f + 1 + k := ⟨8 * ((all ++ (hdr 1 data.length ++ data)) ++ post).length - k, by have := h.1; simp; omega⟩
  unfold infl blocks
  have h2 := h.2 ((hdr 1 data.length ++ data) ++ post) m (f + 1)
  rw [hf]
  rw [← List.append_assoc] at h2
  rw [h2]
  by_cases hc : d.length ≤ m
  · have hw := raw_all hd hn hc
    rw [if_pos hc, blocksL, hr.1]
    simp only
    rw [hr.2]
    simp only [kindB, if_true]
    rw [hw]
    by_cases h3 : d.length + data.length ≤ m
    · rw [if_pos h3, if_pos h3]
      simp only
      rw [if_neg (by decide)]
      simp only [Prod.mk.injEq, true_and, and_true]
      omega
    · rw [if_neg h3, if_neg h3]
  · rw [if_neg hc, if_neg (by omega)]

/- The sum. -/
theorem adl_app (a b : List UInt8) (s : Nat × Nat) : adl (a ++ b) s = adl b (adl a s) := by simp [adl, List.foldl_append]
theorem adl_lo : ∀ (b : List UInt8) (s : Nat × Nat), (adl b s).1 % 65521 = (s.1 + (b.map UInt8.toNat).sum) % 65521
  | [], s => by simp [adl]
  | x :: b, s => by
    have h := adl_lo b ((s.1 + x.toNat) % 65521, (s.2 + (s.1 + x.toNat) % 65521) % 65521)
    simp only [adl, List.foldl_cons, List.map_cons, List.sum_cons] at h ⊢
    rw [h]
    omega
theorem adl_fits (b : List UInt8) : (adl b (1, 0)).1 < 65521 ∧ (adl b (1, 0)).2 < 65521 := adl_lt b _ (by decide) (by decide)
theorem adler_snoc (b : List UInt8) (x : UInt8) : adler (b ++ [x]) = (adler b / 65536 + (adler b % 65536 + x.toNat) % 65521) % 65521 * 65536 + (adler b % 65536 + x.toNat) % 65521 := by
  have h := adl_fits b
  have h1 : adler b % 65536 = (adl b (1, 0)).1 := by unfold adler; omega
  have h2 : adler b / 65536 = (adl b (1, 0)).2 := by unfold adler; omega
  rw [h1, h2]
  unfold adler
  rw [adl_app]
  rfl
theorem adler_set (b : List UInt8) {i : Nat} (hi : i < b.length) {y : UInt8} (hy : y ≠ b.getD i 0) : adler (b.set i y) ≠ adler b := by
  intro he
  have h1 := adl_fits b
  have h2 := adl_fits (b.set i y)
  have e : (adl b (1, 0)).1 = (adl (b.set i y) (1, 0)).1 := by unfold adler at he; omega
  have l1 := adl_lo b (1, 0)
  have l2 := adl_lo (b.set i y) (1, 0)
  have hs : ((b.set i y).map UInt8.toNat).sum + (b.getD i 0).toNat = (b.map UInt8.toNat).sum + y.toNat := by
    clear he h1 h2 e l1 l2 hy
    induction b generalizing i with
    | nil => simp at hi
    | cons x b ih =>
      cases i with
      | zero => simp; omega
      | succ i =>
        have := ih (i := i) (by simpa using hi)
        simp only [List.set_cons_succ, List.map_cons, List.sum_cons, List.getD_cons_succ]
        omega
  have n1 := y.toNat_lt
  have n2 := (b.getD i 0).toNat_lt
  have n3 : y.toNat ≠ (b.getD i 0).toNat := fun h => hy (UInt8.toNat_inj.1 h)
  rw [← e, l1] at l2
  simp only at l2
  omega
/- zlib. -/
def be32 (s : Nat) : List UInt8 := [UInt8.ofNat (s / 16777216 % 256), UInt8.ofNat (s / 65536 % 256), UInt8.ofNat (s / 256 % 256), UInt8.ofNat (s % 256)]
theorem foot4 (a b c d : UInt8) : footN [a, b, c, d] = 16777216 * a.toNat + 65536 * b.toNat + 256 * c.toNat + d.toNat := by
  simp [footN]
  omega
theorem foot_be32 {s : Nat} (h : s < 4294967296) : footN (be32 s) = s := by
  unfold be32
  rw [foot4]
  have t : ∀ x, x < 256 → (UInt8.ofNat x).toNat = x := fun x hx => by simp; omega
  rw [t _ (by omega), t _ (by omega), t _ (by omega), t _ (by omega)]
  omega
theorem adler_lt (b : List UInt8) : adler b < 4294967296 := by
  have h := adl_fits b
  unfold adler
  omega
theorem zlib_frame {data foot : List UInt8} (hn : data.length ≤ 65535) (hf : foot.length = 4) :
    zlib ([120, 156] ++ (hdr 1 data.length ++ data) ++ foot) 1048576 = if footN foot = adler data then (data, 0) else ([], 241) := by
  have hr := reads_end reads_nil hn foot 1048576
  simp only [List.nil_append, List.length_nil, Nat.zero_add] at hr
  rw [if_pos (by omega)] at hr
  unfold zlib
  rw [if_pos (by unfold zok; simp)]
  have hd : ([120, 156] ++ (hdr 1 data.length ++ data) ++ foot).drop 2 = hdr 1 data.length ++ data ++ foot := rfl
  rw [hd, hr]
  unfold zlibR
  simp only [if_true]
  rw [if_pos (by simp [hdr_len, hf]; omega)]
  have h2 : ([120, 156] ++ (hdr 1 data.length ++ data) ++ foot).drop (2 + (5 + data.length)) = foot := by
    have : ([120, 156] ++ (hdr 1 data.length ++ data)).length = 2 + (5 + data.length) := by simp [hdr_len]; omega
    rw [← this, List.drop_left]
  rw [h2]
theorem foot_set {f : List UInt8} (hf : f.length = 4) {i : Nat} (hi : i < 4) {y : UInt8} (hy : y ≠ f.getD i 0) : footN (f.set i y) ≠ footN f := by
  match f, hf with
  | [a, b, c, d], _ =>
    have n0 := y.toNat_lt
    have n1 := a.toNat_lt
    have n2 := b.toNat_lt
    have n3 := c.toNat_lt
    have n4 := d.toNat_lt
    have hne : ∀ z : UInt8, y ≠ z → y.toNat ≠ z.toNat := fun z h e => h (UInt8.toNat_inj.1 e)
    rcases i with _ | _ | _ | _ | i
    · have := hne a hy
      simp only [List.set_cons_zero, foot4]; omega
    · have := hne b hy
      simp only [List.set_cons_zero, List.set_cons_succ, foot4]; omega
    · have := hne c hy
      simp only [List.set_cons_zero, List.set_cons_succ, foot4]; omega
    · have := hne d hy
      simp only [List.set_cons_zero, List.set_cons_succ, foot4]; omega
    · omega
theorem zlib_good {data : List UInt8} (hn : data.length ≤ 65535) : zlib ([120, 156] ++ (hdr 1 data.length ++ data) ++ be32 (adler data)) 1048576 = (data, 0) := by
  rw [zlib_frame hn rfl, if_pos (foot_be32 (adler_lt data))]
theorem zlib_told {data : List UInt8} (hn : data.length ≤ 65535) {i : Nat} (h7 : 7 ≤ i) (hi : i < 11 + data.length) {y : UInt8} (hy : y ≠ ([120, 156] ++ (hdr 1 data.length ++ data) ++ be32 (adler data)).getD i 0) :
    zlib (([120, 156] ++ (hdr 1 data.length ++ data) ++ be32 (adler data)).set i y) 1048576 = ([], 241) := by
  obtain ⟨j, rfl⟩ := Nat.exists_eq_add_of_le h7
  have hl : ([120, 156] ++ hdr 1 data.length).length = 7 := rfl
  have e0 : [120, 156] ++ (hdr 1 data.length ++ data) ++ be32 (adler data) = ([120, 156] ++ hdr 1 data.length) ++ (data ++ be32 (adler data)) := by simp
  have e1 : ([120, 156] ++ (hdr 1 data.length ++ data) ++ be32 (adler data)).set (7 + j) y = ([120, 156] ++ hdr 1 data.length) ++ (data ++ be32 (adler data)).set j y := by
    rw [e0, List.set_append_right _ _ (by rw [hl]; omega), hl, Nat.add_sub_cancel_left]
  have e2 : ([120, 156] ++ (hdr 1 data.length ++ data) ++ be32 (adler data)).getD (7 + j) 0 = (data ++ be32 (adler data)).getD j 0 := by
    rw [e0, List.getD_eq_getElem?_getD, List.getElem?_append_right (by rw [hl]; omega), hl, Nat.add_sub_cancel_left, ← List.getD_eq_getElem?_getD]
  rw [e1]
  rw [e2] at hy
  by_cases hj : j < data.length
  · rw [List.set_append_left _ _ hj]
    have h3 : (data ++ be32 (adler data)).getD j 0 = data.getD j 0 := by rw [List.getD_eq_getElem?_getD, List.getElem?_append_left hj, ← List.getD_eq_getElem?_getD]
    rw [h3] at hy
    have hs := adler_set data hj hy
    have hsl : (data.set j y).length = data.length := List.length_set
    have := zlib_frame (data := data.set j y) (foot := be32 (adler data)) (by omega) rfl
    rw [hsl, foot_be32 (adler_lt data), if_neg (fun h => hs h.symm)] at this
    rw [← this]
    simp
  · rw [List.set_append_right _ _ (by omega)]
    have h3 : (data ++ be32 (adler data)).getD j 0 = (be32 (adler data)).getD (j - data.length) 0 := by rw [List.getD_eq_getElem?_getD, List.getElem?_append_right (by omega), ← List.getD_eq_getElem?_getD]
    rw [h3] at hy
    have hs := foot_set (f := be32 (adler data)) rfl (by omega) hy
    rw [foot_be32 (adler_lt data)] at hs
    have := zlib_frame (data := data) (foot := (be32 (adler data)).set (j - data.length) y) hn (by rw [List.length_set]; rfl)
    rw [if_neg hs] at this
    rw [← this]
    simp
end Infl
