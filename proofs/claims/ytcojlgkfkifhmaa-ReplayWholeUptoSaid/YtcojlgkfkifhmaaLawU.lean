/- From a walk of a law to its row in the second form (what it reads is of bounded bulk); for every program. -/
import Derived.Test.YtcojlgkfkifhmaaLaw
import Derived.Deep.DeepHandedRow
namespace Sg
open Go Go.ChangeShapes Go.WideShapes Go.RowKit
/-- What a law's walk must show, where its readings meet a condition. -/
def LawWalkU (P : Program) (f : FuncId) (fn : Func) (X : World → Prop) (k : (H : Type) → List (DataW H) → Bool) : Prop :=
  ∀ {H : Type} {enc : TypeId × Value → H} (W : World) (base : Nat) (args : Array Value) (ds : List (DataW H)) (p : List MemPlace), (∀ (j : Nat) t v, fn.params[j]? = some t → args[j]? = some v → Value.okWide P W .any base t v) →
    DataW.TrodAll enc P W 0 (fun _ => true) true fn.params.toList args.toList ds p → (DataW.weightsEach P fn.params.toList ds).all (· ≤ reachBytes) = true → k H ds = true → X W →
    Meets P f args.toList W [] [] (fun e _ => e = .returned (.bool true))
theorem law_lifted_upto {C : Checked} {os : Os} {f : FuncId} {fn : Func} {s : ChangeSpec} {k : (H : Type) → List (DataW H) → Bool} {conds : List PathCond} {laid : List (String × DataW Unit)} {rt : TypeId} {fresh handsOn : Bool} (H : Type) (enc : TypeId × Value → H) (F : Stop.Interp) (own : ownKnob C.prog.godebug = none) (started : os.Started) (noInit : C.prog.inits.idxOf? f = none) (hfn : C.prog.funcs[f]? = some fn)
    (witness : ∃ (w : World) (tape : Tape) (i : Input), w.os = os ∧ (w.forCall tape i).Shaped C.prog ∧ i.vars = [] ∧ Input.okWide C.prog (w.forCall tape i) .any w.heap.size f i ∧
      ({ OpenSpec.ofChange s with cond := some k } : OpenSpec).preRow enc C.prog fn conds false laid (w.forCall tape i).memory i.args ∧ ({} : Assume).holds C.prog (lone (Frame.enter C.prog f i.args .normal) [] (w.forCall tape i)))
    (hres : fn.resultTypes = #[rt]) (hrt : C.prog.underlying rt = some .bool) (hvars : s.vars = []) (hs : ∀ (H : Type) (ds : List (DataW H)), ds.length = fn.params.toList.length → s.fn H ds = { results := [.lit (.bool true)], args := ds })
    (hl : laidOutB C.prog = true) (hts : fn.params.toList.all (fun t => C.prog.readableRec t && decide (t < C.prog.types.size)) = true) (law : LawWalkU C.prog f fn (laidMetH C.prog laid) k) :
    ReturnsInHanded {} C os f .any (({ OpenSpec.ofChange s with cond := some k } : OpenSpec).preRow enc C.prog fn conds false laid) (((({ OpenSpec.ofChange s with cond := some k } : OpenSpec)).at F).post enc C.prog fn false fresh handsOn false) := by
  refine returnsInHanded_of_row (s := { OpenSpec.ofChange s with cond := some k }) own started noInit hfn witness ?_
  intro W base args ds gs before hval hW _ hk hz hx _ _
  have hW' := hW
  obtain ⟨p, q, hA, hV, rfl, hfz, hnd⟩ := hW
  have hV' : DataW.TrodVars enc C.prog W (fun _ => true) s.vars gs q := hV
  rw [hvars] at hV'
  obtain ⟨rfl, rfl⟩ := trodVars_none hV'
  have hvt : s.plain.varTypes C.prog = [] := by simp [DataSpec.varTypes, ChangeSpec.plain, hvars]
  have hz' : (DataW.weightsEach C.prog (fn.params.toList ++ s.plain.varTypes C.prog) (ds ++ [])).all (· ≤ reachBytes) = true := hz
  rw [hvt, List.append_nil, List.append_nil] at hz'
  have hk' := hk k rfl
  rw [List.append_nil] at hk'
  have hlt : ∀ x ∈ p, x.block < W.heap.size := fun x hx => hW'.lt x (List.mem_append_left _ hx)
  have hlen := trodAll_len hA
  refine (law W base args ds p hval hA hz' hk' hx W (St.refl W)).mono fun e W' ⟨H', he, hst⟩ => ?_
  subst he
  have hb : Below W.heap.size W W' := ⟨hst.os, hst.tape, hst.output, hst.size, fun k hk => hst.keep k hk (by simp)⟩
  have hp : s.post enc C.prog fn false fresh handsOn false W args (.bool true) W' := by
    refine ⟨ds, [], _, [], p, [], hW', ?_, ?_, ?_, Below.frame hb _, fun h => by cases h⟩
    · rw [List.append_nil, hs H ds hlen, hres]
      exact trodAll_mk1 (shut_bool hrt true)
    · rw [List.append_nil, hs H ds hlen]
      exact trodAll_below hl hb hts hA hlt
    · rw [hvars, List.append_nil, hs H ds hlen]
      rfl
  exact ⟨_, rfl, hp⟩
end Sg
