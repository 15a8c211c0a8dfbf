/- The walks of the program's book: the reader of an image. -/
import Derived.Test.YtcojlgkfkifhmaaRepF
/- maps -/
namespace Go.Proofs.Ytcojlgkfkifhmaa
open Sg Go.IntWalk
set_option maxRecDepth 100000
set_option maxHeartbeats 1000000
/-- A reader: its place; whether it has met what cannot be. -/
structure Rr where
  pos : Nat
  bad : Bool
abbrev rdV (b : Option Addr) (n c : Nat) (r : Rr) : List Value := [.slice b n c, .int .i64 r.pos, .bool r.bad]
def Rr.take (l : List UInt8) (r : Rr) (n : Nat) : List UInt8 × Rr := if r.bad = true ∨ l.length < r.pos + n then (List.replicate n 0, ⟨r.pos, true⟩) else ((l.drop r.pos).take n, ⟨r.pos + n, false⟩)
def Rr.need (r : Rr) (ok : Bool) (n : Nat) : Rr := if r.bad = false ∧ ok = false then ⟨r.pos - n, true⟩ else r
/-- A number of bytes, the most significant first. -/
def beV (l : List UInt8) : Nat := l.foldl (fun n c => n * 256 + c.toNat) 0
def Rr.number (l : List UInt8) (r : Rr) (size : Nat) : Nat × Rr := (beV (r.take l size).1, (r.take l size).2)
def Rr.byte (l : List UInt8) (r : Rr) (lo hi : Nat) : Nat × Rr := ((r.number l 1).1, (r.number l 1).2.need (decide (lo ≤ (r.number l 1).1) && decide ((r.number l 1).1 ≤ hi)) 1)
theorem beV_snoc (l : List UInt8) (c : UInt8) : beV (l ++ [c]) = beV l * 256 + c.toNat := by rw [beV, List.foldl_append, List.foldl_cons, List.foldl_nil, ← beV]
theorem beV_lt : ∀ (l : List UInt8), beV l < 256 ^ l.length := by
  intro l
  induction hn : l.length generalizing l with
  | zero =>
    rw [List.eq_nil_of_length_eq_zero hn]
    decide
  | succ n ih =>
    rcases List.eq_nil_or_concat l with rfl | ⟨l, c, rfl⟩
    · cases hn
    · rw [List.concat_eq_append, List.length_append, List.length_singleton] at hn
      rw [List.concat_eq_append, beV_snoc, Nat.pow_succ]
      have h1 := ih l (by omega)
      have h2 := c.toNat_lt
      omega
theorem pow256_le {n : Nat} (h : n ≤ 8) : 256 ^ n ≤ 18446744073709551616 := by
  have : 256 ^ n ≤ 256 ^ 8 := Nat.pow_le_pow_right (by decide) h
  have h8 : 256 ^ 8 = 18446744073709551616 := by decide
  omega
theorem beV_lt64 {l : List UInt8} (h : l.length ≤ 8) : beV l < 18446744073709551616 := Nat.lt_of_lt_of_le (beV_lt l) (pow256_le h)
theorem take_len {l : List UInt8} {r : Rr} {n : Nat} : (r.take l n).1.length = n := by
  unfold Rr.take
  split
  · simp
  · rename_i h
    simp only [List.length_take, List.length_drop]
    omega
theorem takeR_ok {F : World} {M : List Nat} {H : List Res} {p c n pos len : Nat} {b : Option Addr} (hl : len ≤ 1000000000000000) (hc : len ≤ c) (h : pos + n ≤ len) :
    Meets Try.prog 51 [.pointer (some ⟨p, 0, none⟩), .int .i64 n] F M (.blk p [.slice b len c, .int .i64 pos, .bool false] 74 :: H) (fun e H' => e = .returned (.slice (saddr b c pos 1) n (c - pos)) ∧ H' = .blk p [.slice b len c, .int .i64 (pos + n : Nat), .bool false] 74 :: H) := by
  refine Meets.enter Try.func51 rfl rfl ?_
  repeat' (first | ((with_reducible apply T.mv); apply rfl; apply rfl) | ((with_reducible apply T.asn); apply rfl; apply rfl) | ((with_reducible apply T.len); apply rfl; apply rfl) | ((with_reducible apply T.nilCheck); apply rfl; apply rfl) | ((with_reducible apply T.fieldAddrZ); apply rfl; apply rfl) | ((with_reducible apply T.load); apply rfl; apply rfl; infer_instance; apply rfl; apply rfl) | ((with_reducible apply T.gtr); apply rfl; apply rfl; apply rfl) | ((with_reducible apply T.addI); apply rfl; apply rfl; omega; apply rfl) | ((with_reducible apply T.subI); apply rfl; apply rfl; omega; apply rfl) | ((with_reducible apply T.pickF); apply rfl; apply rfl; apply rfl) | ((with_reducible apply T.sliceLH); apply rfl; apply rfl; apply rfl; omega; apply rfl) | ((with_reducible apply T.store); apply rfl; apply rfl; infer_instance; (first | decide | (simp; omega) | simp); apply rfl) | with_reducible refine Sr.nil ?_ | with_reducible refine S.seq ?_ | with_reducible refine S.reg ?_ | with_reducible refine S.skip ?_ | ((with_reducible apply S.quiet); apply rfl; kernel_rfl) | ((with_reducible apply T.ung); apply rfl) | ((with_reducible apply T.retW); apply rfl) | ((with_reducible apply S.condQ); apply rfl; all_goals (intro _; try (exfalso; omega))) | fail)
  have e1 : ((pos : Int) + n - n).toNat = pos := by omega
  have e2 : ((pos : Int) + n).toNat - pos = n := by omega
  rw [e1, e2]
  exact ⟨_, PSub.refl _, rfl, rfl⟩
theorem takeR_no {F : World} {M : List Nat} {H : List Res} {p c n pos len : Nat} {b : Option Addr} {bad : Bool} (hl : len ≤ 1000000000000000) (hp : pos ≤ len) (hn : n ≤ 1000000) (h : bad = true ∨ len < pos + n) :
    Meets Try.prog 51 [.pointer (some ⟨p, 0, none⟩), .int .i64 n] F M (.blk p [.slice b len c, .int .i64 pos, .bool bad] 74 :: H) (fun e H' => ∃ nb, e = .returned (.slice (some ⟨nb, 0, none⟩) n n) ∧ H' = .row (some ⟨nb, 0, none⟩) n 5 1 n ((List.replicate n (0 : UInt8)).map bV) :: .blk p [.slice b len c, .int .i64 pos, .bool true] 74 :: H) := by
  have hrep : List.replicate n (Value.int .u8 0) = (List.replicate n (0 : UInt8)).map bV := by rw [List.map_replicate]; rfl
  refine Meets.enter Try.func51 rfl rfl ?_
  cases bad with
  | true =>
    repeat' (first | ((with_reducible apply T.mv); apply rfl; apply rfl) | ((with_reducible apply T.asn); apply rfl; apply rfl) | ((with_reducible apply T.nilCheck); apply rfl; apply rfl) | ((with_reducible apply T.fieldAddrZ); apply rfl; apply rfl) | ((with_reducible apply T.load); apply rfl; apply rfl; infer_instance; apply rfl; apply rfl) | ((with_reducible apply T.pickT); apply rfl; apply rfl; apply rfl) | ((with_reducible apply T.store); apply rfl; apply rfl; infer_instance; (first | decide | (simp; omega) | simp); apply rfl) | ((with_reducible apply T.makeS); apply rfl; apply rfl; apply rfl; (constructor <;> omega); apply rfl; intro nb) | with_reducible refine Sr.nil ?_ | with_reducible refine S.seq ?_ | with_reducible refine S.reg ?_ | ((with_reducible apply S.quiet); apply rfl; kernel_rfl) | ((with_reducible apply T.skip); apply rfl; apply rfl; apply rfl) | ((with_reducible apply S.condT); apply rfl) | ((with_reducible apply T.retW); apply rfl) | fail)
    rw [hrep]
    exact ⟨_, PSub.refl _, nb, rfl, rfl⟩
  | false =>
    have h2 : len < pos + n := by simpa using h
    repeat' (first | ((with_reducible apply T.mv); apply rfl; apply rfl) | ((with_reducible apply T.asn); apply rfl; apply rfl) | ((with_reducible apply T.len); apply rfl; apply rfl) | ((with_reducible apply T.nilCheck); apply rfl; apply rfl) | ((with_reducible apply T.fieldAddrZ); apply rfl; apply rfl) | ((with_reducible apply T.load); apply rfl; apply rfl; infer_instance; apply rfl; apply rfl) | ((with_reducible apply T.gtr); apply rfl; apply rfl; apply rfl) | ((with_reducible apply T.subI); apply rfl; apply rfl; omega; apply rfl) | ((with_reducible apply T.pickF); apply rfl; apply rfl; apply rfl) | ((with_reducible apply T.store); apply rfl; apply rfl; infer_instance; (first | decide | (simp; omega) | simp); apply rfl) | ((with_reducible apply T.makeS); apply rfl; apply rfl; apply rfl; (constructor <;> omega); apply rfl; intro nb) | with_reducible refine Sr.nil ?_ | with_reducible refine S.seq ?_ | with_reducible refine S.reg ?_ | ((with_reducible apply S.quiet); apply rfl; kernel_rfl) | ((with_reducible apply T.ung); apply rfl) | ((with_reducible apply T.retW); apply rfl) | ((with_reducible apply S.condQ); apply rfl; all_goals (intro _; try (exfalso; omega))) | fail)
    rw [hrep]
    exact ⟨_, PSub.refl _, nb, rfl, rfl⟩
theorem needR_spec {F : World} {M : List Nat} {H : List Res} {p c n len : Nat} {b : Option Addr} {r : Rr} {ok : Bool} (hl : r.pos ≤ 1000000000000000) (hn : r.bad = false → n ≤ r.pos) :
    Meets Try.prog 36 [.pointer (some ⟨p, 0, none⟩), .bool ok, .int .i64 n] F M (.blk p (rdV b len c r) 74 :: H) (fun e H' => e = .returned (.tuple ⟨[]⟩) ∧ H' = .blk p (rdV b len c (r.need ok n)) 74 :: H) := by
  obtain ⟨pos, bad⟩ := r
  simp only at hn hl
  have key : ∀ (b2 : Bool), b2 = bad → ∀ (ok2 : Bool), ok2 = ok → ∀ z : Int, z = ((Rr.need ⟨pos, bad⟩ ok n).pos : Int) → ∀ b3 : Bool, b3 = (Rr.need ⟨pos, bad⟩ ok n).bad →
    Meets Try.prog 36 [.pointer (some ⟨p, 0, none⟩), .bool ok2, .int .i64 n] F M (.blk p [.slice b len c, .int .i64 pos, .bool b2] 74 :: H) (fun e H' => e = .returned (.tuple ⟨[]⟩) ∧ H' = .blk p [.slice b len c, .int .i64 z, .bool b3] 74 :: H) := by
    intro b2 hb2 ok2 hok2 z hz b3 hb3
    refine Meets.enter Try.func36 rfl rfl ?_
    unfold Rr.need at hz hb3
    cases b2 with
    | true =>
      subst hb2
      simp only [Bool.true_eq_false, false_and, if_false] at hz hb3
      subst hz hb3
      repeat' (first | ((with_reducible apply T.mv); apply rfl; apply rfl) | ((with_reducible apply T.nilCheck); apply rfl; apply rfl) | ((with_reducible apply T.fieldAddrZ); apply rfl; apply rfl) | ((with_reducible apply T.load); apply rfl; apply rfl; infer_instance; apply rfl; apply rfl) | ((with_reducible apply T.notB); apply rfl; apply rfl) | ((with_reducible apply T.pickF); apply rfl; apply rfl; apply rfl) | with_reducible refine Sr.nil ?_ | with_reducible refine S.seq ?_ | with_reducible refine S.reg ?_ | with_reducible refine S.skip ?_ | ((with_reducible apply T.skip); apply rfl; apply rfl; apply rfl) | ((with_reducible apply S.condF); apply rfl) | ((with_reducible apply T.doneW); apply rfl) | fail)
      exact ⟨_, PSub.refl _, rfl, rfl⟩
    | false =>
      subst hb2
      cases ok2 with
      | true =>
        subst hok2
        simp only [Bool.true_eq_false, and_false, if_false] at hz hb3
        subst hz hb3
        repeat' (first | ((with_reducible apply T.mv); apply rfl; apply rfl) | ((with_reducible apply T.nilCheck); apply rfl; apply rfl) | ((with_reducible apply T.fieldAddrZ); apply rfl; apply rfl) | ((with_reducible apply T.load); apply rfl; apply rfl; infer_instance; apply rfl; apply rfl) | ((with_reducible apply T.notB); apply rfl; apply rfl) | ((with_reducible apply T.pickT); apply rfl; apply rfl; apply rfl) | with_reducible refine Sr.nil ?_ | with_reducible refine S.seq ?_ | with_reducible refine S.reg ?_ | with_reducible refine S.skip ?_ | ((with_reducible apply T.ung); apply rfl) | ((with_reducible apply S.condF); apply rfl) | ((with_reducible apply T.doneW); apply rfl) | fail)
        exact ⟨_, PSub.refl _, rfl, rfl⟩
      | false =>
        subst hok2
        simp only [and_self, if_true] at hz hb3
        have hn' := hn rfl
        have e1 : z = (pos : Int) - (n : Int) := by omega
        subst e1 hb3
        repeat' (first | ((with_reducible apply T.mv); apply rfl; apply rfl) | ((with_reducible apply T.nilCheck); apply rfl; apply rfl) | ((with_reducible apply T.fieldAddrZ); apply rfl; apply rfl) | ((with_reducible apply T.load); apply rfl; apply rfl; infer_instance; apply rfl; apply rfl) | ((with_reducible apply T.subI); apply rfl; apply rfl; omega; apply rfl) | ((with_reducible apply T.notB); apply rfl; apply rfl) | ((with_reducible apply T.pickT); apply rfl; apply rfl; apply rfl) | ((with_reducible apply T.store); apply rfl; apply rfl; infer_instance; (first | decide | (simp; omega) | simp); apply rfl) | with_reducible refine Sr.nil ?_ | with_reducible refine S.seq ?_ | with_reducible refine S.reg ?_ | ((with_reducible apply T.ung); apply rfl) | ((with_reducible apply S.condT); apply rfl) | ((with_reducible apply T.doneW); apply rfl) | fail)
        exact ⟨_, PSub.refl _, rfl, rfl⟩
  exact key bad rfl ok rfl _ rfl _ rfl
theorem takeR_spec {F : World} {M : List Nat} {H : List Res} {p c n : Nat} {b : Option Addr} {l : List UInt8} {r : Rr} [hR : Rd F M H b (l.map bV)] (hl : l.length ≤ 1000000000000000) (hc : l.length ≤ c) (hp : r.pos ≤ l.length) (hn : n ≤ 1000000) :
    Meets Try.prog 51 [.pointer (some ⟨p, 0, none⟩), .int .i64 n] F M (.blk p (rdV b l.length c r) 74 :: H) (fun e H' => ∃ T a cc, e = .returned (.slice a n cc) ∧ H' = T :: .blk p (rdV b l.length c (r.take l n).2) 74 :: H ∧ Rd F M (T :: .blk p (rdV b l.length c (r.take l n).2) 74 :: H) a ((r.take l n).1.map bV)) := by
  obtain ⟨pos, bad⟩ := r
  simp only at hp
  by_cases h : bad = true ∨ l.length < pos + n
  · unfold Rr.take
    rw [if_pos h]
    refine (takeR_no hl hp hn h).mono fun e H' ⟨nb, h1, h2⟩ => ⟨_, _, _, h1, h2, inferInstance⟩
  · unfold Rr.take
    rw [if_neg h]
    obtain ⟨h1, h2⟩ := not_or.1 h
    simp only [Bool.not_eq_true] at h1
    subst h1
    have hok := takeR_ok (F := F) (M := M) (H := H) (p := p) (b := b) hl hc (n := n) (pos := pos) (by omega)
    refine fun w hw => (hok w hw).mono fun e w' ⟨H', h3, h4⟩ => ⟨.row none 0 5 1 0 [] :: H', ?_, h4.nilrow 5 1⟩
    obtain ⟨h5, rfl⟩ := h3
    have i1 : Rd F M (.row none 0 5 1 0 [] :: .blk p [.slice b l.length c, .int .i64 (pos + n : Nat), .bool false] 74 :: H) b (l.map bV) := inferInstance
    exact ⟨_, _, _, h5, rfl, Rd.take1 (Rd.sub1 (cp := c) (lo := pos) i1 hc) n⟩
theorem or_byte (m : Nat) {x : Nat} (h : x < 256) : m * 2 ^ 8 ||| x = m * 256 + x := by
  have := Nat.two_pow_add_eq_or_of_lt (i := 8) (b := x) h m
  rw [Nat.mul_comm (2 ^ 8) m] at this
  omega
theorem beV_take {bs : List UInt8} {i : Nat} (h : i < bs.length) : beV (bs.take (i + 1)) = beV (bs.take i) * 256 + (bs.getD i 0).toNat := by
  rw [take_snocB (d := 0) h, beV_snoc]
theorem numberR_spec {F : World} {M : List Nat} {H : List Res} {p c n : Nat} {b : Option Addr} {l : List UInt8} {r : Rr} [hR : Rd F M H b (l.map bV)] (hl : l.length ≤ 1000000000000000) (hc : l.length ≤ c) (hp : r.pos ≤ l.length) (hn : n ≤ 8) :
    Meets Try.prog 35 [.pointer (some ⟨p, 0, none⟩), .int .i64 n] F M (.blk p (rdV b l.length c r) 74 :: H) (fun e H' => e = .returned (.int .u64 ((r.number l n).1 : Nat)) ∧ H' = .blk p (rdV b l.length c (r.number l n).2) 74 :: H) := by
  unfold Rr.number
  refine Meets.enter Try.func35 rfl rfl ?_
  repeat' (first | ((with_reducible apply T.mv); apply rfl; apply rfl) | ((with_reducible apply T.asn); apply rfl; apply rfl) | with_reducible refine Sr.nil ?_ | with_reducible refine S.seq ?_ | with_reducible refine S.reg ?_ | fail)
  refine T.call rfl rfl (takeR_spec (r := r) (l := l) hl hc hp (by omega)) ?_
  rintro _ _ ⟨t0, a, cc, rfl, rfl, i1⟩
  repeat' (first | ((with_reducible apply T.mv); apply rfl; apply rfl) | ((with_reducible apply T.len); apply rfl; apply rfl) | with_reducible refine Sr.nil ?_ | with_reducible refine S.block ?_ | (with_reducible apply T.ofRet) | fail)
  have hbl : (r.take l n).1.length = n := take_len
  generalize (r.take l n).1 = bs at *
  generalize (r.take l n).2 = r2 at *
  subst hbl
  refine S.loopE 0 [10, 11] (fun R b' μ H' e => ∃ i : Nat, H' = R ∧ e = (5, .int .u64 (beV (bs.take i) : Nat)) :: (12, .int .i64 i) :: b' ∧ i ≤ bs.length ∧ μ = bs.length - i) rfl rfl ?_ _ _ ⟨0, rfl, rfl, by omega, rfl⟩ (by repeat' first | exact trivial | refine And.intro rfl ?_)
  rintro _ _ _ ⟨i, rfl, rfl, hi, rfl⟩ ih
  by_cases h1 : i < bs.length
  · have h2 : beV (bs.take i) < 72057594037927936 := by
      have h3 := beV_lt (bs.take i)
      have h4 : (bs.take i).length ≤ 7 := by rw [List.length_take]; omega
      have h5 : 256 ^ (bs.take i).length ≤ 256 ^ 7 := Nat.pow_le_pow_right (by decide) h4
      have h6 : 256 ^ 7 = 72057594037927936 := by decide
      omega
    have hx : (bs.getD i 0).toNat < 256 := (bs.getD i 0).toNat_lt
    have e1 : beV (bs.take i) * 2 ^ 8 ||| (bs.getD i 0).toNat = beV (bs.take (i + 1)) := by rw [or_byte _ hx, beV_take h1]
    repeat' (first | ((with_reducible apply T.shlU64 (n := 8)); apply rfl; apply rfl; omega; omega; apply rfl) | ((with_reducible apply T.orU64); apply rfl; apply rfl; omega; omega; apply rfl; rw [e1]) | ((with_reducible apply T.mv); apply rfl; apply rfl) | ((with_reducible apply T.asn); apply rfl; apply rfl) | ((with_reducible apply T.lss); apply rfl; apply rfl; apply rfl) | ((with_reducible apply T.addI); apply rfl; apply rfl; omega; apply rfl) | ((with_reducible apply T.ixN); apply rfl; apply rfl; infer_instance; omega; (first | omega | (simp only [List.length_map]; omega) | (simp; omega)); apply rfl) | ((with_reducible apply T.loadB); apply rfl; infer_instance; omega; apply rfl) | ((with_reducible apply T.convU64); apply rfl; omega; apply rfl) | with_reducible refine Sr.nil ?_ | with_reducible refine S.seq ?_ | with_reducible refine S.block ?_ | with_reducible refine S.reg ?_ | with_reducible refine S.skip ?_ | with_reducible refine S.inBlock ?_ | ((with_reducible apply S.condQ); apply rfl; all_goals (intro _; try (exfalso; omega))) | fail)
    exact ih _ _ _ _ ⟨i + 1, rfl, rfl, by omega, rfl⟩ (by omega) (by repeat' first | exact trivial | refine And.intro rfl ?_)
  · obtain rfl : i = bs.length := by omega
    rw [List.take_length]
    repeat' (first | ((with_reducible apply T.mv); apply rfl; apply rfl) | ((with_reducible apply T.asn); apply rfl; apply rfl) | ((with_reducible apply T.lss); apply rfl; apply rfl; apply rfl) | with_reducible refine Sr.nil ?_ | with_reducible refine S.seq ?_ | with_reducible refine S.reg ?_ | ((with_reducible apply S.exit); apply rfl) | ((with_reducible apply T.retW); apply rfl) | ((with_reducible apply S.condQ); apply rfl; all_goals (intro _; try (exfalso; omega))) | fail)
    exact ⟨_, by ((repeat (first | dsimp only [List.set_cons_zero] | dsimp only [List.set_cons_succ])); repeat' first | exact PSub.refl _ | exact PSub.nil | ((with_reducible apply PSub.take); (repeat' first | (with_reducible exact pick_hd) | (with_reducible apply pick_tl))) | (with_reducible apply PSub.drop) | ((apply PSub.take); (repeat' first | exact pick_hd | (apply pick_tl)))), rfl, rfl⟩
end Go.Proofs.Ytcojlgkfkifhmaa
