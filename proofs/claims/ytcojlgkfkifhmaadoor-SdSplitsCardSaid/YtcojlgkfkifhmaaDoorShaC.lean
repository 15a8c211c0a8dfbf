/- The program's sum: Write, of all bytes. -/
import Derived.Test.YtcojlgkfkifhmaaDoorShaB
/- words -/
namespace Go.Proofs.YtcojlgkfkifhmaaDoor
open Sg Go.IntWalk
set_option maxRecDepth 100000
set_option maxHeartbeats 2000000
/-- What a state holds, of all bytes so far. -/
structure Stt (l : List UInt8) (V : V8) (rest : List UInt8) : Prop where
  len : rest.length = 128
  val : V = absorb l (l.length / 64)
  rem : rest.take (l.length % 64) = l.drop (64 * (l.length / 64))
theorem Stt.low {l u rest : List UInt8} {V : V8} (h : Stt l V rest) (hk : l.length % 64 + u.length < 64) : Stt (l ++ u) V (rest.take (l.length % 64) ++ u ++ rest.drop (l.length % 64 + u.length)) := by
  have h1 := h.len
  have e1 : (l ++ u).length / 64 = l.length / 64 := by rw [List.length_append]; omega
  have e2 : (l ++ u).length % 64 = l.length % 64 + u.length := by rw [List.length_append]; omega
  refine ⟨by simp only [List.length_append, List.length_take, List.length_drop]; omega, by rw [e1, absorb_append _ _ _ (by omega)]; exact h.val, ?_⟩
  rw [e1, e2, List.drop_append_of_le_length (by omega), ← h.rem, List.take_append_of_le_length (by simp only [List.length_append, List.length_take]; omega), List.take_of_length_le (by simp only [List.length_append, List.length_take]; omega)]
theorem Stt.full {l u rest : List UInt8} {V : V8} (h : Stt l V rest) (hk : l.length % 64 + u.length = 64) :
    Stt (l ++ u) (V.block ((rest.take (l.length % 64) ++ u ++ rest.drop (l.length % 64 + u.length)).take 64)) (rest.take (l.length % 64) ++ u ++ rest.drop (l.length % 64 + u.length)) := by
  have h1 := h.len
  have e1 : (l ++ u).length / 64 = l.length / 64 + 1 := by rw [List.length_append]; omega
  have e2 : (l ++ u).length % 64 = 0 := by rw [List.length_append]; omega
  have e3 : 64 * (l.length / 64) ≤ l.length := by omega
  refine ⟨by simp only [List.length_append, List.length_take, List.length_drop]; omega, ?_, ?_⟩
  · rw [e1, absorb, absorb_append _ _ _ e3, ← h.val, List.drop_append_of_le_length e3, ← h.rem, List.take_append_of_le_length (by simp only [List.length_append, List.length_take]; omega)]
  · rw [e1, e2, List.take_zero, List.drop_eq_nil_of_le (by rw [List.length_append]; omega)]
theorem stC_copy {V : V8} {rest us : List UInt8} {n o : Nat} (h : o + us.length ≤ rest.length) : (stC V rest n).take (17 + o) ++ us.map bV ++ (stC V rest n).drop (17 + o + us.length) = stC V (rest.take o ++ us ++ rest.drop (o + us.length)) n := by
  have hz : ∀ (p r : List Value), p.length = 17 → (p ++ r).take (17 + o) = p ++ r.take o := fun p r hp => by rw [← hp, List.take_length_add_append]
  have hd : ∀ (p r : List Value) (k : Nat), p.length = 17 → (p ++ r).drop (17 + k) = r.drop k := fun p r k hp => by rw [← hp, List.drop_length_add_append]
  have hs : ∀ (r : List UInt8), stC V r n = (.int .i64 1 :: (V.list.map wV ++ List.replicate 8 (.int .u64 0))) ++ (r.map bV ++ [.int .u64 (n : Int)]) := fun r => by simp [stC]
  rw [hs, hs, hz _ _ rfl, Nat.add_assoc, hd _ _ _ rfl, List.take_append_of_le_length (by simp; omega), List.drop_append_of_le_length (by simp; omega)]
  simp [List.map_append, List.map_take, List.map_drop]
section
variable {q : Sg.Mode} {c : Ctx} {ds : List Deferred} {H : List Res} {ops : Array Oper} {l : List Oper} {κ : List Res → Env → Prop} {dr : Bool} {e : Env} {ty : TypeId} {pos : String} {aft : Array Edge}
theorem T.stLoadN {x : Operand} {d b n : Nat} {t E : TypeId} [HU c.P t (.int .u64)] {V : V8} {rest : List UInt8} (hx : ev e x = some (.pointer (some ⟨b, 145, none⟩))) (hb : InB H b (stC V rest n) E) (hr : rest.length = 128) (hlt : Nat.blt d c.fn.ntmps = true)
    (hk : Sr q c ds H ops l κ ((d, .int .u64 (n : Int)) :: e)) : Sr q c ds H ops (⟨some d, .load t x, ty, pos, aft, none⟩ :: l) κ e := T.load (dd := .int .u64) hx rfl hb (stC_n hr) hlt hk
theorem T.stStoreN {x y : Operand} {b n m : Nat} {V : V8} {rest : List UInt8} {t E : TypeId} {z : Value} {by_ : Nat} [HI c.P t z 1 by_] {f : Res → List Res} (hx : ev e x = some (.pointer (some ⟨b, 145, none⟩))) (hy : ev e y = some (.int .u64 (m : Int)))
    (hb : AtB H b (stC V rest n) E f) (hr : rest.length = 128) (hk : Sr (.eff dr) c ds (f (.blk b (stC V rest m) E)) ops l κ e) : Sr (.eff dr) c ds H ops (⟨none, .store t x y, ty, pos, aft, none⟩ :: l) κ e := by
  refine Sr.store (z := z) (by_ := by_) hx hy (by rw [stC_len hr]; decide) rfl ?_
  rw [stC_setN hr]
  exact hk
theorem T.stCopy {d : Tmp} {x y : Operand} {b o dl dc m scp n t t' E Eb : Nat} {sad : Option Addr} [HU c.P t (.slice E)] {z : Value} {by_ : Nat} [HI c.P E z 1 by_] {V : V8} {rest us : List UInt8} {f : Res → List Res} (k : Nat) (hx : ev e x = some (.slice (some ⟨b, 17 + o, none⟩) dl dc)) (hy : ev e y = some (.slice sad m scp))
    (hb : AtB H b (stC V rest n) Eb f) (hs : Rd c.F c.M H sad (us.map bV)) (hm : us.length = m) (h0 : 0 < m) (hk0 : min m dl = k) (ho : o + k ≤ rest.length) (hlt : Nat.blt d c.fn.ntmps = true)
    (hk : Sr (.eff dr) c ds (f (.blk b (stC V (rest.take o ++ us.take k ++ rest.drop (o + k)) n) Eb)) ops l κ ((d, .int .i64 (k : Int)) :: e)) :
    Sr (.eff dr) c ds H ops (⟨some d, .call ⟨.builtin .copy, #[x, y], #[t, t']⟩, ty, pos, aft, none⟩ :: l) κ e := by
  have hkl : (us.take k).length = k := by rw [List.length_take]; omega
  refine Sr.copyB (z := z) (by_ := by_) hx hy hb hs (by rw [List.length_map]; exact hm) h0 hk0 ?_ (all_bV _) hlt ?_
  · simp [stC, V8.list]; omega
  · have := stC_copy (V := V) (n := n) (rest := rest) (us := us.take k) (o := o) (by omega)
    rw [hkl] at this
    rw [← List.map_take, this]
    exact hk
end
theorem stBlock_spec {F : World} {M : List Nat} {H : List Res} {b n : Nat} {V : V8} {rest : List UInt8} (hr : rest.length = 128) (hK : ∀ H, Rd F M H (some ⟨9, 0, none⟩) (k256.map wV)) :
    Meets Tryd.prog 32 [.pointer (some ⟨b, 0, none⟩)] F M (stR b V rest n :: H) (fun e H' => e = .returned (pack []) ∧ H' = stR b (V.block (rest.take 64)) rest n :: H) := by
  refine Meets.enter Tryd.func32 rfl rfl ?_
  repeat' (first | ((with_reducible apply T.mv); apply rfl; apply rfl) | ((with_reducible apply T.nilCheck); apply rfl; apply rfl) | ((with_reducible apply T.fieldAddrZ); apply rfl; apply rfl) | ((with_reducible apply T.load); apply rfl; apply rfl; infer_instance; apply rfl; apply rfl) | ((with_reducible apply T.eql); apply rfl; apply rfl; apply rfl) | with_reducible refine Sr.nil ?_ | with_reducible refine S.seq ?_ | with_reducible refine S.reg ?_ | ((with_reducible apply S.condT); apply rfl) | fail)
  refine T.call rfl rfl (block32_spec hr hK) ?_
  rintro _ _ ⟨rfl, rfl⟩
  repeat' (first | with_reducible refine Sr.nil ?_ | ((with_reducible apply T.doneW); apply rfl) | (with_reducible apply T.ofRet) | fail)
  all_goals exact ⟨_, PSub.refl _, rfl, rfl⟩
theorem write_spec {F : World} {M : List Nat} {H : List Res} {b c : Nat} {sa : Option Addr} {V : V8} {rest l₀ bs : List UInt8} (hS : Stt l₀ V rest) (hK : ∀ H, Rd F M H (some ⟨9, 0, none⟩) (k256.map wV))
    (hR : Rd F M H sa (bs.map bV)) (hc : bs.length ≤ c) (hn : l₀.length + bs.length ≤ 281474976710656) :
    Meets Tryd.prog 23 [.pointer (some ⟨b, 0, none⟩), .slice sa bs.length c] F M (stR b V rest l₀.length :: H) (fun e H' => e = .returned (pack []) ∧ ∃ V' rest', H' = stR b V' rest' (l₀ ++ bs).length :: H ∧ Stt (l₀ ++ bs) V' rest') := by
  refine Meets.enter Tryd.func23 rfl rfl ?_
  repeat' (first | ((with_reducible apply T.pcall); apply rfl; infer_instance; apply rfl; with_reducible exact block_pure) | ((with_reducible apply T.mv); apply rfl; apply rfl) | ((with_reducible apply T.asn); apply rfl; apply rfl) | ((with_reducible apply T.nilCheck); apply rfl; apply rfl) | ((with_reducible apply T.fieldAddrZ); apply rfl; apply rfl) | ((with_reducible apply T.load); apply rfl; apply rfl; infer_instance; apply rfl; apply rfl) | with_reducible refine Sr.nil ?_ | with_reducible refine S.seq ?_ | with_reducible refine S.block ?_ | with_reducible refine S.reg ?_ | fail)
  refine S.loopE 1 [0, 4] (fun R b' μ H' e => ∃ (l' r : List UInt8) (ad : Option Addr) (c' : Nat) (V' : V8) (rest' : List UInt8), H' = stR b V' rest' l'.length :: R ∧ e = (1, .slice ad r.length c') :: b' ∧ Stt l' V' rest' ∧ Rd F M H ad (r.map bV) ∧ r.length ≤ c' ∧ l' ++ r = l₀ ++ bs ∧ μ = r.length) rfl rfl ?_ _ _ ⟨l₀, bs, sa, c, V, rest, rfl, rfl, hS, hR, hc, rfl, rfl⟩ (by repeat' first | exact trivial | refine And.intro rfl ?_)
  clear hS hR hc
  rintro _ _ _ ⟨l, r, ad, c', V, rest, rfl, rfl, hS, hR, hc, hlr, rfl⟩ ih
  have hl : l.length + r.length = (l ++ r).length := by simp
  rw [hlr, List.length_append] at hl
  by_cases h1 : 0 < r.length
  · have hr := hS.len
    have hat : l.length % 64 < 64 := Nat.mod_lt _ (by decide)
    obtain ⟨k, hk⟩ : ∃ k, min r.length (64 - l.length % 64) = k := ⟨_, rfl⟩
    have hkl : (r.take k).length = k := by rw [List.length_take]; omega
    have hdl : (r.drop k).length = r.length - k := by rw [List.length_drop]
    have hr2 : (rest.take (l.length % 64) ++ r.take k ++ rest.drop (l.length % 64 + k)).length = 128 := by simp only [List.length_append, List.length_take, List.length_drop]; omega
    have hn2 : (l ++ r.take k).length = l.length + k := by rw [List.length_append, hkl]
    have hR2 := hR.sub1 (cp := c') (lo := k) hc
    have hlr2 : (l ++ r.take k) ++ r.drop k = l₀ ++ bs := by rw [List.append_assoc, List.take_append_drop, hlr]
    by_cases h2 : l.length % 64 + k = 64
    · have hS2 := hS.full (u := r.take k) (by rw [hkl]; exact h2)
      rw [hkl] at hS2
      repeat' (first | ((with_reducible apply T.stLoadN); apply rfl; infer_instance; (first | exact hr | exact hr2); apply rfl) | ((with_reducible apply T.remU64 (n := 64)); apply rfl; apply rfl; omega; apply rfl) | (refine T.sliceALH (j := 64) rfl rfl rfl (by omega) rfl ?_) | (refine T.stCopy k rfl rfl inferInstance inferInstance rfl (by omega) hk (by omega) rfl ?_) | ((with_reducible apply T.addU64N); apply rfl; apply rfl; omega; apply rfl) | ((with_reducible apply T.stStoreN); apply rfl; apply rfl; infer_instance; exact hr2) | ((with_reducible apply T.mv); apply rfl; apply rfl) | ((with_reducible apply T.asn); apply rfl; apply rfl) | ((with_reducible apply T.len); apply rfl; apply rfl) | ((with_reducible apply T.nilCheck); apply rfl; apply rfl) | ((with_reducible apply T.fieldAddrZ); apply rfl; apply rfl) | ((with_reducible apply T.gtr); apply rfl; apply rfl; apply rfl) | ((with_reducible apply T.eql); apply rfl; apply rfl; apply rfl) | ((with_reducible apply T.addI); apply rfl; apply rfl; omega; apply rfl) | ((with_reducible apply T.convI64); apply rfl; omega; apply rfl) | ((with_reducible apply T.convU64); apply rfl; omega; apply rfl) | ((with_reducible apply T.sliceLK); apply rfl; apply rfl; omega; apply rfl) | with_reducible refine Sr.nil ?_ | with_reducible refine S.seq ?_ | with_reducible refine S.block ?_ | with_reducible refine S.reg ?_ | with_reducible refine S.skip ?_ | ((with_reducible apply S.condQ); apply rfl; all_goals (intro _; try (exfalso; omega))) | fail)
      refine T.call rfl rfl (stBlock_spec hr2 hK) ?_
      rintro _ _ ⟨rfl, rfl⟩
      repeat' (first | with_reducible refine Sr.nil ?_ | with_reducible refine S.inBlock ?_ | (with_reducible apply T.ofRet) | fail)
      rw [← hn2, ← hdl]
      exact ih _ _ _ _ ⟨_, _, _, c' - k, _, _, rfl, rfl, hS2, hR2, by omega, hlr2, rfl⟩ (by omega) (by repeat' first | exact trivial | refine And.intro rfl ?_)
    · have hS2 := hS.low (u := r.take k) (by rw [hkl]; omega)
      rw [hkl] at hS2
      repeat' (first | ((with_reducible apply T.stLoadN); apply rfl; infer_instance; (first | exact hr | exact hr2); apply rfl) | ((with_reducible apply T.remU64 (n := 64)); apply rfl; apply rfl; omega; apply rfl) | (refine T.sliceALH (j := 64) rfl rfl rfl (by omega) rfl ?_) | (refine T.stCopy k rfl rfl inferInstance inferInstance rfl (by omega) hk (by omega) rfl ?_) | ((with_reducible apply T.addU64N); apply rfl; apply rfl; omega; apply rfl) | ((with_reducible apply T.stStoreN); apply rfl; apply rfl; infer_instance; exact hr2) | ((with_reducible apply T.mv); apply rfl; apply rfl) | ((with_reducible apply T.asn); apply rfl; apply rfl) | ((with_reducible apply T.len); apply rfl; apply rfl) | ((with_reducible apply T.nilCheck); apply rfl; apply rfl) | ((with_reducible apply T.fieldAddrZ); apply rfl; apply rfl) | ((with_reducible apply T.gtr); apply rfl; apply rfl; apply rfl) | ((with_reducible apply T.eql); apply rfl; apply rfl; apply rfl) | ((with_reducible apply T.addI); apply rfl; apply rfl; omega; apply rfl) | ((with_reducible apply T.convI64); apply rfl; omega; apply rfl) | ((with_reducible apply T.convU64); apply rfl; omega; apply rfl) | ((with_reducible apply T.sliceLK); apply rfl; apply rfl; omega; apply rfl) | with_reducible refine Sr.nil ?_ | with_reducible refine S.seq ?_ | with_reducible refine S.block ?_ | with_reducible refine S.reg ?_ | with_reducible refine S.skip ?_ | with_reducible refine S.inBlock ?_ | ((with_reducible apply S.condQ); apply rfl; all_goals (intro _; try (exfalso; omega))) | fail)
      rw [← hn2, ← hdl]
      exact ih _ _ _ _ ⟨_, _, _, c' - k, _, _, rfl, rfl, hS2, hR2, by omega, hlr2, rfl⟩ (by omega) (by repeat' first | exact trivial | refine And.intro rfl ?_)
  · obtain rfl : r = [] := List.eq_nil_of_length_eq_zero (by omega)
    rw [List.append_nil] at hlr
    subst hlr
    repeat' (first | ((with_reducible apply T.mv); apply rfl; apply rfl) | ((with_reducible apply T.len); apply rfl; apply rfl) | ((with_reducible apply T.gtr); apply rfl; apply rfl; apply rfl) | with_reducible refine Sr.nil ?_ | with_reducible refine S.seq ?_ | with_reducible refine S.reg ?_ | ((with_reducible apply S.exit); apply rfl) | ((with_reducible apply S.condF); apply rfl) | ((with_reducible apply T.doneW); apply rfl) | fail)
    exact ⟨_, PSub.refl _, rfl, _, _, rfl, hS⟩
end Go.Proofs.YtcojlgkfkifhmaaDoor
