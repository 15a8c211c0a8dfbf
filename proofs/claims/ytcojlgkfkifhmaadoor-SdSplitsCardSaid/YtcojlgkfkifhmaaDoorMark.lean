/- A byte slice of a literal turned into its own type: its block is marked behind its last cell, and only read from then on. -/
import Derived.Test.YtcojlgkfkifhmaaDoorRecs
namespace Sg
open Go Go.RowKit
instance Rd.mrk {F : World} {M : List Nat} {H : List Res} {b : Nat} {vs : List Value} {E : TypeId} {fr : Nat × Nat} : Rd F M (.obj b (.cells ⟨vs⟩ E fr) :: H) (some ⟨b, 0, none⟩) vs := ⟨fun w hw j u hu => ⟨⟨b, 0, none⟩, rfl, by
  have hb : w.heap[b]? = some (.cells ⟨vs⟩ E fr) := hw.res _ (List.mem_cons_self ..)
  rw [addr_add, Nat.zero_add]
  simp [World.cell?, hb, hu]⟩⟩
section
variable {c : Ctx} {H : List Res} {e : Env} {dst : Option Tmp} {ty : TypeId} {pos : String} {aft : Array Edge} {g : Option (Nat × Bool)}
theorem Ef.convM {x : Operand} {b n cp : Nat} {vs : List Value} {t E E' : TypeId} (hx : ev e x = some (.slice (some ⟨b, 0, none⟩) n cp)) [HU c.P t (.slice E')] [HU c.P E' (.int .u8)] :
    Ef c (.blk b vs E :: H) e ⟨dst, .convert t t x, ty, pos, aft, g⟩ fun v H' => v = .slice (some ⟨b, 0, none⟩) n cp ∧ H' = .obj b (.cells ⟨vs⟩ E (vs.length, vs.length + 1)) :: H := fun w a hw ha => by
  have hb : w.heap[b]? = some (.cells ⟨vs⟩ E (0, 0)) := hw.res _ (List.mem_cons_self ..)
  have hsh : w.shape? b = some (E, vs.length) := by
    unfold World.shape?
    rw [hb]
    rfl
  have h1 : ∀ j, b ≠ j → (w.freeze ⟨b, vs.length, none⟩ 1).heap[j]? = w.heap[j]? := fun j hj => by
    unfold World.freeze
    rw [if_neg (by decide)]
    show (w.heap.modify b _)[j]? = _
    rw [Array.getElem?_modify, if_neg hj]
  have h2 : (w.freeze ⟨b, vs.length, none⟩ 1).heap[b]? = some (.cells ⟨vs⟩ E (vs.length, vs.length + 1)) := by
    unfold World.freeze
    rw [if_neg (by decide)]
    show (w.heap.modify b _)[b]? = _
    rw [Array.getElem?_modify, if_pos rfl, hb]
    rfl
  have h3 : (w.freeze ⟨b, vs.length, none⟩ 1).heap.size = w.heap.size := by
    unfold World.freeze
    rw [if_neg (by decide)]
    simp
  refine ⟨_, w.freeze ⟨b, vs.length, none⟩ 1, _, .inl ?_, ?_, rfl, rfl⟩
  · simp [execOp, ha.ev hx, convert, run_under (d := .slice E'), run_under (d := .int .u8), markStringish, hsh]
  · refine hw.turn ?_ ?_ ?_ (Nat.le_of_eq h3.symm) (fun j _ hj => h1 j (by simpa [Res.foot, eq_comm] using hj)) h2 (fun c hc => .inl hc) (by simp [Res.foot])
    all_goals (unfold World.freeze; rw [if_neg (by decide)])
end
theorem T.convM {c : Ctx} {dr : Bool} {ds : List Deferred} {H : List Res} {e : Env} {ops : Array Oper} {l : List Oper} {κ : List Res → Env → Prop} {ty : TypeId} {pos : String} {aft : Array Edge} {d : Tmp} {x : Operand} {b n cp : Nat} {vs : List Value} {t E E' : TypeId} (hx : ev e x = some (.slice (some ⟨b, 0, none⟩) n cp)) [HU c.P t (.slice E')] [HU c.P E' (.int .u8)] (hlt : Nat.blt d c.fn.ntmps = true)
    (hk : Sr (.eff dr) c ds (.obj b (.cells ⟨vs⟩ E (vs.length, vs.length + 1)) :: H) ops l κ ((d, .slice (some ⟨b, 0, none⟩) n cp) :: e)) : Sr (.eff dr) c ds (.blk b vs E :: H) ops (⟨some d, .convert t t x, ty, pos, aft, none⟩ :: l) κ e :=
  Sr.eff (Ef.convM (E' := E') hx) hlt rfl fun v H' ⟨hv, hH⟩ => by
    subst hv hH
    exact hk
end Sg
