/- The program's sum: turns, sizes, and one block by words of 32 bits. -/
import Derived.Test.YtcojlgkfkifhmaaDoorFacts
import Derived.Test.YtcojlgkfkifhmaaDoorWord
namespace Go.Proofs.YtcojlgkfkifhmaaDoor
open Sg Go Go.RowKit Go.IntWalk
set_option maxRecDepth 100000
set_option maxHeartbeats 1000000
theorem rotl_spec (x : UInt32) (n k : Nat) (h : n + k = 32) (h0 : 0 < n) (hk : 0 < k) : PCall Tryd.prog 51 [wV x, .int .i64 (-(n : Int))] (wV (rot n x)) := by
  intro w
  unfold wV
  have e1 : bits BinOp.and IntKind.u64 (IntKind.u64.wrap (-(n : Int))) 31 = (k : Int) := by
    have h2 : IntKind.u64.wrap (-(n : Int)) = ((18446744073709551616 - n : Nat) : Int) := by rw [IntKind.wrap_u64]; omega
    rw [h2]
    have h3 := and_u64 (m := 18446744073709551616 - n) (n := 31) (by omega) (by omega)
    refine Eq.trans h3 ?_
    rw [show 31 = 2 ^ 5 - 1 from rfl, Nat.and_two_pow_sub_one_eq_mod]
    omega
  have e2 := rot_bits x h h0 hk
  have hx := UInt32.toNat_lt x
  generalize (rot (n : Int) x).toNat = r at *
  generalize x.toNat = m at *
  have e3 : (32 - (k : Int)) = n := by omega
  rw [or_comm32] at e2
  go_enter Tryd.func51, Tryd.ntmps51
  go_wp2
  go_ret
  exact ⟨rfl, rfl⟩
theorem rotl_at (x : UInt32) (n : Int) (h : 0 < n ∧ n < 32) : PCall Tryd.prog 51 [wV x, .int .i64 (-n)] (wV (rot n x)) := by
  obtain ⟨m, rfl⟩ : ∃ m : Nat, n = (m : Int) := ⟨n.toNat, by omega⟩
  exact rotl_spec x m (32 - m) (by omega) (by omega) (by omega)
theorem rotl7 (x : UInt32) : PCall Tryd.prog 51 [wV x, .int .i64 (-7)] (wV (rot 7 x)) := rotl_at x 7 (by decide)
theorem rotl18 (x : UInt32) : PCall Tryd.prog 51 [wV x, .int .i64 (-18)] (wV (rot 18 x)) := rotl_at x 18 (by decide)
theorem rotl17 (x : UInt32) : PCall Tryd.prog 51 [wV x, .int .i64 (-17)] (wV (rot 17 x)) := rotl_at x 17 (by decide)
theorem rotl19 (x : UInt32) : PCall Tryd.prog 51 [wV x, .int .i64 (-19)] (wV (rot 19 x)) := rotl_at x 19 (by decide)
theorem rotl6 (x : UInt32) : PCall Tryd.prog 51 [wV x, .int .i64 (-6)] (wV (rot 6 x)) := rotl_at x 6 (by decide)
theorem rotl11 (x : UInt32) : PCall Tryd.prog 51 [wV x, .int .i64 (-11)] (wV (rot 11 x)) := rotl_at x 11 (by decide)
theorem rotl25 (x : UInt32) : PCall Tryd.prog 51 [wV x, .int .i64 (-25)] (wV (rot 25 x)) := rotl_at x 25 (by decide)
theorem rotl2 (x : UInt32) : PCall Tryd.prog 51 [wV x, .int .i64 (-2)] (wV (rot 2 x)) := rotl_at x 2 (by decide)
theorem rotl13 (x : UInt32) : PCall Tryd.prog 51 [wV x, .int .i64 (-13)] (wV (rot 13 x)) := rotl_at x 13 (by decide)
theorem rotl22 (x : UInt32) : PCall Tryd.prog 51 [wV x, .int .i64 (-22)] (wV (rot 22 x)) := rotl_at x 22 (by decide)
theorem block_spec (w : World) : Calls Tryd.prog 31 ⟨[.int .i64 1]⟩ w fun e w' => e = .returned (.int .i64 64) ∧ w' = w := by
  go_enter Tryd.func31, Tryd.ntmps31
  go_wp2
  go_ret
  exact ⟨rfl, rfl⟩
theorem block_pure : PCall Tryd.prog 31 [.int .i64 1] (.int .i64 64) := block_spec
/-- A state's cells. -/
def stC (V : V8) (rest : List UInt8) (n : Nat) : List Value := .int .i64 1 :: (V.list.map wV ++ (List.replicate 8 (.int .u64 0) ++ (rest.map bV ++ [.int .u64 (n : Int)])))
abbrev stR (b : Nat) (V : V8) (rest : List UInt8) (n : Nat) : Res := .blk b (stC V rest n) 56
theorem stC_at {V : V8} {rest : List UInt8} {n j : Nat} (h : j < rest.length) : (stC V rest n)[17 + j]? = some (.int .u8 ((rest.getD j 0).toNat : Int)) := by
  have h1 : (rest.map bV)[j]? = some (.int .u8 ((rest.getD j 0).toNat : Int)) := getB h
  rw [stC, show 17 + j = (16 + j) + 1 by omega, List.getElem?_cons_succ, List.getElem?_append_right (by simp [V8.list]; omega), List.getElem?_append_right (by simp [V8.list]; omega), List.getElem?_append_left (by simp [V8.list]; omega)]
  simp only [V8.list, List.length_map, List.length_cons, List.length_nil, List.length_replicate]
  rw [show 16 + j - (0 + 1 + 1 + 1 + 1 + 1 + 1 + 1 + 1) - 8 = j by omega]
  exact h1
theorem stC_n {V : V8} {rest : List UInt8} {n : Nat} (h : rest.length = 128) : (stC V rest n)[145]? = some (.int .u64 (n : Int)) := by
  rw [stC, List.getElem?_cons_succ, List.getElem?_append_right (by simp [V8.list]), List.getElem?_append_right (by simp [V8.list]), List.getElem?_append_right (by simp [V8.list, h])]
  simp [V8.list, h]
theorem stC_len {V : V8} {rest : List UInt8} {n : Nat} (h : rest.length = 128) : (stC V rest n).length = 146 := by simp [stC, V8.list, h]
theorem stC_all {V : V8} {rest : List UInt8} {n : Nat} : (stC V rest n).all (·.oneCell') = true := by
  simp [stC, wV, Value.oneCell']
theorem stC_setN {V : V8} {rest : List UInt8} {n m : Nat} (h : rest.length = 128) : (stC V rest n).set 145 (.int .u64 (m : Int)) = stC V rest m := by
  rw [stC, stC, List.set_cons_succ, List.set_append_right _ _ (by simp [V8.list]), List.set_append_right _ _ (by simp [V8.list]), List.set_append_right _ _ (by simp [V8.list, h])]
  simp [V8.list, h]
/-- The state's words as a row. -/
def V8.of (l : List UInt32) : V8 := ⟨l.getD 0 0, l.getD 1 0, l.getD 2 0, l.getD 3 0, l.getD 4 0, l.getD 5 0, l.getD 6 0, l.getD 7 0⟩
theorem V8.of_list {l : List UInt32} (h : l.length = 8) : (V8.of l).list = l := by
  match l, h with
  | [a, b, c, d, e, f, g, h], _ => rfl
theorem stC_set {V : V8} {rest : List UInt8} {n i : Nat} {a : UInt32} (h : i < 8) : (stC V rest n).set (1 + i) (wV a) = stC (V8.of (V.list.set i a)) rest n := by
  rw [stC, stC, V8.of_list (by simp [V8.list]), show 1 + i = i + 1 by omega, List.set_cons_succ, List.set_append_left _ _ (by simpa [V8.list] using h), List.map_set]
theorem stC_word {V : V8} {rest : List UInt8} {n i : Nat} (h : i < 8) : (stC V rest n)[1 + i]? = some (wV (V.list.getD i 0)) := by
  rw [stC, show 1 + i = i + 1 by omega, List.getElem?_cons_succ, List.getElem?_append_left (by simpa [V8.list] using h)]
  exact getW (by simpa [V8.list] using h)
instance stC_rest {F : World} {M : List Nat} {H : List Res} {b : Nat} {V : V8} {rest : List UInt8} {n o : Nat} : Rd F M (stR b V rest n :: H) (some ⟨b, 17 + o, none⟩) ((rest.drop o).map bV) := ⟨fun w hw j u hu => by
  refine ⟨_, rfl, ?_⟩
  have hj : o + j < rest.length := by have := (List.getElem?_eq_some_iff.1 hu).1; simp only [List.length_map, List.length_drop] at this; omega
  rw [addr_add, hw.cell (List.mem_cons_self ..), Nat.add_assoc, stC_at hj]
  rw [List.getElem?_map, List.getElem?_drop, List.getElem?_eq_getElem hj] at hu
  simp only [Option.map_some, Option.some.injEq] at hu
  rw [← hu]
  simp [List.getD, hj]⟩
section
variable {q : Mode} {c : Ctx} {ds : List Deferred} {H : List Res} {ops : Array Oper} {l : List Oper} {κ : List Res → Env → Prop} {dr : Bool} {e : Env} {ty : TypeId} {pos : String} {aft : Array Edge}
theorem T.stWord {x y : Operand} {b i n : Nat} {V : V8} {rest : List UInt8} {a : UInt32} {t E : TypeId} {z : Value} {by_ : Nat} [HI c.P t z 1 by_] {f : Res → List Res} (hx : ev e x = some (.pointer (some ⟨b, 1 + i, none⟩))) (hy : ev e y = some (wV a))
    (hb : AtB H b (stC V rest n) E f) (hi : i < 8) (hk : Sr (.eff dr) c ds (f (.blk b (stC (V8.of (V.list.set i a)) rest n) E)) ops l κ e) : Sr (.eff dr) c ds H ops (⟨none, .store t x y, ty, pos, aft, none⟩ :: l) κ e := by
  refine Sr.store (z := z) (by_ := by_) hx hy (by simp [stC, V8.list]; omega) rfl ?_
  rw [stC_set hi]
  exact hk
end
end Go.Proofs.YtcojlgkfkifhmaaDoor
