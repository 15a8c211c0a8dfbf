/- More rules: the complement of a number, shifts of negative ones, a literal as a slice that may grow. -/
import Derived.Test.YtcojlgkfkifhmaaDoorMark
namespace Sg
open Go Go.RowKit
theorem St.weakB {F : World} {M : List Nat} {w : World} {H H' : List Res} (h : St F M w H) (hf : ∀ b ∈ feet H', b ∈ feet H) (hn : (feet H').Nodup) (hr : ∀ r ∈ H', r.holds w) : St F M w H' :=
  ⟨h.os, h.tape, h.output, h.size, h.keep, fun b hb => h.own b (hf b hb), hn, hr⟩
theorem St.blkRow {F : World} {M : List Nat} {w : World} {H : List Res} {b n : Nat} {vs : List Value} {E : TypeId} (h : St F M w (.blk b vs E :: H)) (hn : vs.length = n) (hm : n ≤ maxLen) : St F M w (.row (some ⟨b, 0, none⟩) n E 1 n vs :: H) := by
  refine h.weakB (fun _ h => h) h.nd (fun r hr => ?_)
  rcases List.mem_cons.1 hr with rfl | hr
  · have hb : w.heap[b]? = some (.cells ⟨vs⟩ E (0, 0)) := h.res _ (List.mem_cons_self ..)
    subst hn
    exact ⟨(Nat.mul_one _).symm, .inr ⟨b, vs.length, ⟨vs⟩, rfl, Nat.zero_le _, hb, Nat.le_refl _, hm, by simp, by simp⟩⟩
  · exact h.res r (List.mem_cons_of_mem _ hr)
section
variable {c : Ctx} {dr : Bool} {ds : List Deferred} {H : List Res} {e : Env} {ops : Array Oper} {l : List Oper} {κ : List Res → Env → Prop} {ty : TypeId} {pos : String} {aft : Array Edge} {q : Mode}
theorem Sr.rowOf {b n : Nat} {vs : List Value} {E : TypeId} (hn : vs.length = n) (hm : n ≤ maxLen) (h : Sr (.eff dr) c ds (.row (some ⟨b, 0, none⟩) n E 1 n vs :: H) ops l κ e) : Sr (.eff dr) c ds (.blk b vs E :: H) ops l κ e := h.weaken fun _ hw => hw.blkRow hn hm
theorem S.rowOf {k : List Item} {b n : Nat} {vs : List Value} {E : TypeId} (hn : vs.length = n) (hm : n ≤ maxLen) (h : S c ds (.row (some ⟨b, 0, none⟩) n E 1 n vs :: H) k e) : S c ds (.blk b vs E :: H) k e := h.weaken fun _ hw => hw.blkRow hn hm
theorem T.notI64 {x : Operand} {d : Tmp} {t : TypeId} {n : Nat} (hx : ev e x = some (.int .i64 (n : Int))) (hn : n < 9223372036854775808) (hlt : Nat.blt d c.fn.ntmps = true) (hk : Sr q c ds H ops l κ ((d, .int .i64 (-(n : Int) - 1)) :: e)) :
    Sr q c ds H ops (⟨some d, .unOp .xor t x, ty, pos, aft, none⟩ :: l) κ e := Sr.p (Pu.notX hx (by
  have h1 : (BitVec.ofInt 64 (-1) ^^^ BitVec.ofInt 64 (n : Int)).toNat = 18446744073709551615 - n := by
    rw [show BitVec.ofInt 64 (-1) = BitVec.allOnes 64 from rfl, BitVec.allOnes_xor, BitVec.toNat_not, ofInt_toNat (by omega)]
  show IntKind.i64.wrap ((BitVec.ofInt 64 (-1) ^^^ BitVec.ofInt 64 (n : Int)).toNat : Int) = _
  rw [h1, IntKind.wrap_i64]
  omega)) rfl hlt rfl hk
theorem T.quoU32 {x y : Operand} {d : Tmp} {t u : TypeId} {m n : Nat} (hx : ev e x = some (.int .u32 (m : Int))) (hy : ev e y = some (.int .u32 (n : Int))) (h0 : 0 < n) (hm : m < 4294967296) (hlt : Nat.blt d c.fn.ntmps = true) (hk : Sr q c ds H ops l κ ((d, .int .u32 ((m / n : Nat) : Int)) :: e)) :
    Sr q c ds H ops (⟨some d, .binOp .quo t x y u, ty, pos, aft, none⟩ :: l) κ e := Sr.p (Pu.quo hx hy (by omega) (by
  have h1 : m / n ≤ m := Nat.div_le_self m n
  rw [← Int.ofNat_tdiv, IntKind.wrap_u32]
  generalize m / n = k at *
  omega)) rfl hlt rfl hk
theorem T.shr8Z {x : Operand} {d : Tmp} {t u : TypeId} {m : Int} {kd' : IntKind} (hx : ev e x = some (.int .i64 m)) (hlt : Nat.blt d c.fn.ntmps = true) (hk : Sr q c ds H ops l κ ((d, .int .i64 (m / 256)) :: e)) :
    Sr q c ds H ops (⟨some d, .binOp .shr t x (.const (.int kd' 8)) u, ty, pos, aft, none⟩ :: l) κ e := Sr.p (Pu.shr hx rfl (by decide) (by
  show m.fdiv (2 ^ 8) = m / 256
  rw [Int.fdiv_eq_ediv_of_nonneg _ (by decide)]
  rfl)) rfl hlt rfl hk
theorem T.appendL {α : Type} {g : α → Value} {d : Tmp} {x y : Operand} {ad : Option Addr} {n cp b m t E Eb : Nat} [HU c.P t (.slice E)] {z : Value} {by_ : Nat} [HI c.P E z 1 by_] {xs us : List α} {f : Res → List Res} (hx : ev e x = some (.slice ad n cp)) (hy : ev e y = some (.slice (some ⟨b, 0, none⟩) m m))
    (hr : AtR H ad cp E 1 n (xs.map g) f) (hm : us.length = m) (hg : ∀ u, (g u).oneCell' = true) (hzs : z.cells.size = 1) (hroom : (n + m) * by_ ≤ 140737488355328 ∧ n + m ≤ 140737488355328) (hlt : Nat.blt d c.fn.ntmps = true)
    (hk : ∀ ad' cp', Sr (.eff dr) c ds (f (.row ad' cp' E 1 (n + m) ((xs ++ us).map g))) ops l κ ((d, .slice ad' (n + m) cp') :: e)) :
    Sr (.eff dr) c ds (.blk b (us.map g) Eb :: H) ops (⟨some d, .call ⟨.builtin .append, #[x, y], #[t, t]⟩, ty, pos, aft, none⟩ :: l) κ e := Sr.append (z := z) (by_ := by_) hx hy (by simpa using hm) (by simpa using fun u _ => hg u) hzs (by omega) hroom hlt (fun ad' cp' => by
    have := hk ad' cp'
    rw [List.map_append] at this
    exact this)
end
end Sg
