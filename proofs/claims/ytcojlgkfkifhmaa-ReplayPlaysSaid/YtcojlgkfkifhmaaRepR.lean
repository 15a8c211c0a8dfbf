/- The walks of the document's own answer: its sum, numbers, bytes. -/
import Derived.Test.YtcojlgkfkifhmaaRepN
/- maps -/
namespace Go.Proofs.Ytcojlgkfkifhmaa
open Sg Go.IntWalk
set_option maxRecDepth 100000
set_option maxHeartbeats 1000000
theorem sumF_spec {F : World} {M : List Nat} {H : List Res} {c n : Nat} {b : Option Addr} {l : List UInt8} [hR : Rd F M H b (l.map bV)] (hn : n ≤ l.length) (hb : l.length ≤ 1000000000000000) : Meets Try.prog 40 [.slice b n c] F M H (fun e H' => e = .returned (.int .u64 (fnv (l.take n) : Nat)) ∧ H' = H) := by
  refine Meets.enter Try.func40 rfl rfl ?_
  have htl : (l.take n).length = n := by rw [List.length_take]; omega
  have i0 : Rd F M H b ((l.take n).map bV) := Rd.take1 hR n
  generalize l.take n = bs at *
  subst htl
  repeat' (first | ((with_reducible apply T.asn); apply rfl; apply rfl) | with_reducible refine Sr.nil ?_ | with_reducible refine S.seq ?_ | with_reducible refine S.block ?_ | with_reducible refine S.reg ?_ | fail)
  refine S.loopE 0 [0] (fun R b' μ H' e => ∃ i : Nat, H' = R ∧ e = (3, .int .u64 (fnv (bs.take i) : Nat)) :: (4, .int .i64 i) :: b' ∧ i ≤ bs.length ∧ μ = bs.length - i) rfl rfl ?_ _ _ ⟨0, rfl, rfl, by omega, rfl⟩ (by repeat' first | exact trivial | refine And.intro rfl ?_)
  rintro _ _ _ ⟨i, rfl, rfl, hi, rfl⟩ ih
  have hf := fnv_lt (bs.take i)
  by_cases h1 : i < bs.length
  · have hc : (bs.getD i 0).toNat < 256 := (bs.getD i 0).toNat_lt
    have e1 : (((fnv (bs.take i) ^^^ (bs.getD i 0).toNat : Nat) : Int) * 1099511628211) % 18446744073709551616 = ((fnv (bs.take (i + 1)) : Nat) : Int) := by
      rw [take_snocB (d := 0) h1, fnv_snoc]
      omega
    repeat' (first | ((with_reducible apply T.ixN); apply rfl; apply rfl; exact i0; omega; (first | omega | (simp only [List.length_map]; omega)); apply rfl) | ((with_reducible apply T.loadB); apply rfl; exact i0; omega; apply rfl) | ((with_reducible apply T.xorU64); apply rfl; apply rfl; omega; omega; apply rfl) | ((with_reducible apply T.mulU64 (n := 1099511628211)); apply rfl; apply rfl; apply rfl; rw [e1]) | ((with_reducible apply T.mv); apply rfl; apply rfl) | ((with_reducible apply T.asn); apply rfl; apply rfl) | ((with_reducible apply T.len); apply rfl; apply rfl) | ((with_reducible apply T.lss); apply rfl; apply rfl; apply rfl) | ((with_reducible apply T.addI); apply rfl; apply rfl; omega; apply rfl) | ((with_reducible apply T.convU64); apply rfl; omega; apply rfl) | with_reducible refine Sr.nil ?_ | with_reducible refine S.seq ?_ | with_reducible refine S.block ?_ | with_reducible refine S.reg ?_ | with_reducible refine S.skip ?_ | with_reducible refine S.inBlock ?_ | ((with_reducible apply S.condQ); apply rfl; all_goals (intro _; try (exfalso; omega))) | fail)
    exact ih _ _ _ _ ⟨i + 1, rfl, rfl, by omega, rfl⟩ (by omega) (by repeat' first | exact trivial | refine And.intro rfl ?_)
  · obtain rfl : i = bs.length := by omega
    rw [List.take_length]
    repeat' (first | ((with_reducible apply T.mv); apply rfl; apply rfl) | ((with_reducible apply T.asn); apply rfl; apply rfl) | ((with_reducible apply T.len); apply rfl; apply rfl) | ((with_reducible apply T.lss); apply rfl; apply rfl; apply rfl) | with_reducible refine Sr.nil ?_ | with_reducible refine S.seq ?_ | with_reducible refine S.reg ?_ | ((with_reducible apply S.exit); apply rfl) | ((with_reducible apply T.retW); apply rfl) | ((with_reducible apply S.condQ); apply rfl; all_goals (intro _; try (exfalso; omega))) | fail)
    exact ⟨_, PSub.refl _, rfl, rfl⟩
theorem beN_take {size n m : Nat} (h : m < size) : (beN size n).take (size - m) = (beN size n).take (size - (m + 1)) ++ [UInt8.ofNat (n / 2 ^ (8 * m) % 256)] := by
  have hl := beN_len size n
  rw [show size - m = (size - (m + 1)) + 1 by omega, take_snocB (d := 0) (by omega), beN_at (by omega), show size - 1 - (size - (m + 1)) = m by omega]
theorem put_spec {F : World} {M : List Nat} {H : List Res} {cp n v size : Nat} {ad : Option Addr} {xs : List UInt8} (_hv : v < 18446744073709551616) (hs : size ≤ 8) (hn : n ≤ 100000000000000) :
    Meets Try.prog 52 [.slice ad n cp, .int .u64 v, .int .i64 size] F M (.row ad cp 5 1 n (xs.map bV) :: H) (fun e H' => ∃ ad' cp', e = .returned (.slice ad' (n + size) cp') ∧ H' = .row ad' cp' 5 1 (n + size) ((xs ++ beN size v).map bV) :: H) := by
  refine Meets.enter Try.func52 rfl rfl ?_
  repeat' (first | ((with_reducible apply T.mv); apply rfl; apply rfl) | ((with_reducible apply T.asn); apply rfl; apply rfl) | ((with_reducible apply T.subI); apply rfl; apply rfl; omega; apply rfl) | with_reducible refine Sr.nil ?_ | with_reducible refine S.seq ?_ | with_reducible refine S.block ?_ | with_reducible refine S.reg ?_ | fail)
  refine S.loopE 1 [1] (fun R b' μ H' e => ∃ (m : Nat) (z : Int) (ad' : Option Addr) (cp' : Nat), H' = .row ad' cp' 5 1 (n + (size - m)) ((xs ++ (beN size v).take (size - m)).map bV) :: R ∧ e = (0, .slice ad' (n + (size - m)) cp') :: (7, .int .i64 z) :: b' ∧ (z = (m : Int) - 1 ∧ m ≤ size) ∧ μ = m) rfl rfl ?_ _ _ ⟨size, (size : Int) - 1, ad, cp, by rw [Nat.sub_self, List.take_zero, List.append_nil]; rfl, rfl, ⟨rfl, Nat.le_refl _⟩, rfl⟩ (by rw [Nat.sub_self]; exact (by repeat' first | exact trivial | refine And.intro rfl ?_))
  rintro m _ _ ⟨_, z, ad', cp', rfl, rfl, ⟨hz, hm⟩, rfl⟩ ih
  cases m with
  | zero =>
    have hl := beN_len size v
    rw [Nat.sub_zero, List.take_of_length_le (by omega)]
    repeat' (first | ((with_reducible apply T.mv); apply rfl; apply rfl) | ((with_reducible apply T.asn); apply rfl; apply rfl) | ((with_reducible apply T.geq); apply rfl; apply rfl; apply rfl) | with_reducible refine Sr.nil ?_ | with_reducible refine S.seq ?_ | with_reducible refine S.reg ?_ | ((with_reducible apply S.exit); apply rfl) | ((with_reducible apply T.retW); apply rfl) | ((with_reducible apply S.condQ); apply rfl; all_goals (intro _; try (exfalso; omega))) | fail)
    exact ⟨_, PSub.refl _, _, _, rfl, rfl⟩
  | succ i =>
    have hz' : z = (i : Int) := by omega
    subst hz'
    have e2 : (8 : Int) * (i : Int) = ((8 * i : Nat) : Int) := by omega
    have e3 : ∀ q : Nat, ((q : Nat) : Int) % 256 = ((UInt8.ofNat (q % 256)).toNat : Int) := fun q => by
      rw [UInt8.toNat_ofNat']
      omega
    have hbt := beN_take (size := size) (n := v) (m := i) (by omega)
    repeat' (first | ((with_reducible apply T.mulI (m := 8)); apply rfl; apply rfl; omega; apply rfl; rw [e2]) | ((with_reducible apply T.shrU64); apply rfl; apply rfl; omega; apply rfl) | ((with_reducible apply T.convMU8); apply rfl; apply rfl; rw [e3]) | ((with_reducible apply T.mv); apply rfl; apply rfl) | ((with_reducible apply T.asn); apply rfl; apply rfl) | ((with_reducible apply T.geq); apply rfl; apply rfl; apply rfl) | ((with_reducible apply T.subI); apply rfl; apply rfl; omega; apply rfl) | ((with_reducible apply T.convU64); apply rfl; omega; apply rfl) | ((with_reducible apply T.bs); apply rfl; apply rfl; apply rfl; apply rfl; apply rfl; apply rfl; intro nb) | ((with_reducible apply T.appendB); apply rfl; apply rfl; infer_instance; apply rfl; (constructor <;> omega); apply rfl; intro na nc) | with_reducible refine Sr.nil ?_ | with_reducible refine S.seq ?_ | with_reducible refine S.block ?_ | with_reducible refine S.reg ?_ | with_reducible refine S.skip ?_ | with_reducible refine S.inBlock ?_ | ((with_reducible apply S.condT); apply rfl) | fail)
    have e4 : n + (size - (i + 1)) + 1 = n + (size - i) := by omega
    rw [e4, List.append_assoc, ← hbt]
    exact ih _ _ _ _ ⟨i, _, na, nc, rfl, rfl, ⟨rfl, by omega⟩, rfl⟩ (by omega) (by repeat' first | exact trivial | refine And.intro rfl ?_)
theorem get_spec {F : World} {M : List Nat} {H : List Res} {c at_ size : Nat} {b : Option Addr} {l : List UInt8} [hR : Rd F M H b (l.map bV)] (hl : l.length ≤ 1000000000000000) (ha : at_ ≤ l.length) (hs : size ≤ 8) :
    Meets Try.prog 38 [.slice b l.length c, .int .i64 at_, .int .i64 size] F M H (fun e H' => e = .returned (.tuple ⟨[.int .u64 (if l.length < at_ + size then 0 else beV ((l.drop at_).take size) : Nat), .bool (decide (at_ + size ≤ l.length))]⟩) ∧ H' = H) := by
  refine Meets.enter Try.func38 rfl rfl ?_
  by_cases h : l.length < at_ + size
  · rw [if_pos h, decide_eq_false (by omega)]
    repeat' (first | ((with_reducible apply T.mv); apply rfl; apply rfl) | ((with_reducible apply T.asn); apply rfl; apply rfl) | ((with_reducible apply T.len); apply rfl; apply rfl) | ((with_reducible apply T.lss); apply rfl; apply rfl; apply rfl) | ((with_reducible apply T.subI); apply rfl; apply rfl; omega; apply rfl) | with_reducible refine Sr.nil ?_ | with_reducible refine S.seq ?_ | with_reducible refine S.reg ?_ | ((with_reducible apply T.retW); apply rfl) | ((with_reducible apply S.condQ); apply rfl; all_goals (intro _; try (exfalso; omega))) | fail)
    exact ⟨_, PSub.refl _, rfl, rfl⟩
  rw [if_neg h, decide_eq_true (by omega)]
  repeat' (first | ((with_reducible apply T.mv); apply rfl; apply rfl) | ((with_reducible apply T.asn); apply rfl; apply rfl) | ((with_reducible apply T.len); apply rfl; apply rfl) | ((with_reducible apply T.lss); apply rfl; apply rfl; apply rfl) | ((with_reducible apply T.subI); apply rfl; apply rfl; omega; apply rfl) | with_reducible refine Sr.nil ?_ | with_reducible refine S.seq ?_ | with_reducible refine S.block ?_ | with_reducible refine S.reg ?_ | with_reducible refine S.skip ?_ | ((with_reducible apply S.condQ); apply rfl; all_goals (intro _; try (exfalso; omega))) | fail)
  have hbl : ((l.drop at_).take size).length = size := by rw [List.length_take, List.length_drop]; omega
  have hgd : ∀ i, i < size → (l.getD (at_ + i) 0) = ((l.drop at_).take size).getD i 0 := fun i hi => by
    simp only [List.getD_eq_getElem?_getD, List.getElem?_take_of_lt hi, List.getElem?_drop]
  generalize (l.drop at_).take size = bs at *
  subst hbl
  refine S.loopE 0 [0, 1, 2] (fun R b' μ H' e => ∃ i : Nat, H' = R ∧ e = (8, .int .u64 (beV (bs.take i) : Nat)) :: (9, .int .i64 i) :: b' ∧ i ≤ bs.length ∧ μ = bs.length - i) rfl rfl ?_ _ _ ⟨0, rfl, rfl, by omega, rfl⟩ (by repeat' first | exact trivial | refine And.intro rfl ?_)
  rintro _ _ _ ⟨i, rfl, rfl, hi, rfl⟩ ih
  by_cases h1 : i < bs.length
  · have h2 : beV (bs.take i) < 72057594037927936 := by
      have h3 := beV_lt (bs.take i)
      have h4 : (bs.take i).length ≤ 7 := by rw [List.length_take]; omega
      have h5 : 256 ^ (bs.take i).length ≤ 256 ^ 7 := Nat.pow_le_pow_right (by decide) h4
      have h6 : 256 ^ 7 = 72057594037927936 := by decide
      omega
    have hx : (l.getD (at_ + i) 0).toNat < 256 := (l.getD (at_ + i) 0).toNat_lt
    have e0 : (at_ : Int) + (i : Int) = ((at_ + i : Nat) : Int) := by omega
    have e1 : (256 * ((beV (bs.take i) : Nat) : Int)) % 18446744073709551616 = ((256 * beV (bs.take i) : Nat) : Int) := by omega
    have e2 : (((256 * beV (bs.take i) : Nat) : Int) + ((l.getD (at_ + i) 0).toNat : Int)) % 18446744073709551616 = ((beV (bs.take (i + 1)) : Nat) : Int) := by
      rw [beV_take h1, ← hgd i h1]
      omega
    repeat' (first | ((with_reducible apply T.mulU64 (m := 256)); apply rfl; apply rfl; apply rfl; rw [e1]) | ((with_reducible apply T.addI (m := (at_ : Int)) (n := (i : Int))); apply rfl; apply rfl; omega; apply rfl; rw [e0]) | ((with_reducible apply T.addU64); apply rfl; apply rfl; apply rfl; rw [e2]) | ((with_reducible apply T.mv); apply rfl; apply rfl) | ((with_reducible apply T.asn); apply rfl; apply rfl) | ((with_reducible apply T.lss); apply rfl; apply rfl; apply rfl) | ((with_reducible apply T.addI); apply rfl; apply rfl; omega; apply rfl) | ((with_reducible apply T.ixN); apply rfl; apply rfl; infer_instance; omega; (first | omega | (simp only [List.length_map]; omega) | (simp; omega)); apply rfl) | ((with_reducible apply T.loadB); apply rfl; infer_instance; omega; apply rfl) | ((with_reducible apply T.convU64); apply rfl; omega; apply rfl) | with_reducible refine Sr.nil ?_ | with_reducible refine S.seq ?_ | with_reducible refine S.block ?_ | with_reducible refine S.reg ?_ | with_reducible refine S.skip ?_ | with_reducible refine S.inBlock ?_ | ((with_reducible apply S.condQ); apply rfl; all_goals (intro _; try (exfalso; omega))) | fail)
    exact ih _ _ _ _ ⟨i + 1, rfl, rfl, by omega, rfl⟩ (by omega) (by repeat' first | exact trivial | refine And.intro rfl ?_)
  · obtain rfl : i = bs.length := by omega
    rw [List.take_length]
    repeat' (first | ((with_reducible apply T.mv); apply rfl; apply rfl) | ((with_reducible apply T.asn); apply rfl; apply rfl) | ((with_reducible apply T.lss); apply rfl; apply rfl; apply rfl) | with_reducible refine Sr.nil ?_ | with_reducible refine S.seq ?_ | with_reducible refine S.reg ?_ | ((with_reducible apply S.exit); apply rfl) | ((with_reducible apply T.retW); apply rfl) | ((with_reducible apply S.condQ); apply rfl; all_goals (intro _; try (exfalso; omega))) | fail)
    exact ⟨_, PSub.refl _, rfl, rfl⟩
end Go.Proofs.Ytcojlgkfkifhmaa
