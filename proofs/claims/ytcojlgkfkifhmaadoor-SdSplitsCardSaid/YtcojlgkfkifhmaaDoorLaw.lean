/- From a walk of a law to its row: the arguments opened, and read again behind the call; for every program. -/
import Derived.Test.YtcojlgkfkifhmaaDoorRecs
import Derived.ProofKit
import Derived.Carry
import Derived.LaidMore
import Derived.OpenShut
import Derived.Stop.Joined
import Derived.SizedLaws
namespace Sg
open Go Go.ChangeShapes Go.WideShapes Go.RowKit

theorem trodAll_below {H : Type} {enc : TypeId × Value → H} {P : Program} (hl : laidOutB P = true) {W W' : World} (hb : Below W.heap.size W W') : ∀ {ts : List TypeId} {vs : List Value} {ds : List (DataW H)} {ps : List MemPlace},
    ts.all (fun t => P.readableRec t && decide (t < P.types.size)) = true → DataW.TrodAll enc P W 0 (fun _ => true) true ts vs ds ps → (∀ x ∈ ps, x.block < W.heap.size) → DataW.TrodAll enc P W' 0 (fun b => decide (b < W.heap.size)) true ts vs ds ps
  | [], [], [], _, _, h, _ => h
  | t :: ts, v :: vs, d :: ds, ps, ht, h, hlt => by
    obtain ⟨p, q, h1, h2, rfl⟩ := h
    simp only [List.all_cons, Bool.and_eq_true, decide_eq_true_eq] at ht
    exact ⟨p, q, Below.trod hl ht.1.1 ht.1.2 h1 hb (fun x hx => hlt x (List.mem_append_left _ hx)), trodAll_below hl hb (by simpa using ht.2) h2 (fun x hx => hlt x (List.mem_append_right _ hx)), rfl⟩
  | [], _ :: _, _, _, _, h, _ => h.elim
  | [], [], _ :: _, _, _, h, _ => h.elim
  | _ :: _, [], _, _, _, h, _ => h.elim
  | _ :: _, _ :: _, [], _, _, h, _ => h.elim
theorem trodAll_len {H : Type} {enc : TypeId × Value → H} {P : Program} {W : World} {base : Nat} {sp : Nat → Bool} {held : Bool} : ∀ {ts : List TypeId} {vs : List Value} {ds : List (DataW H)} {ps : List MemPlace}, DataW.TrodAll enc P W base sp held ts vs ds ps → ds.length = ts.length
  | [], [], [], _, _ => rfl
  | t :: ts, v :: vs, d :: ds, ps, h => by
    obtain ⟨p, q, h1, h2, rfl⟩ := h
    rw [List.length_cons, List.length_cons, trodAll_len h2]
  | [], _ :: _, _, _, h => h.elim
  | [], [], _ :: _, _, h => h.elim
  | _ :: _, [], _, _, h => h.elim
  | _ :: _, _ :: _, [], _, h => h.elim
/-- What a law's walk must show. -/
def LawWalk (P : Program) (f : FuncId) (fn : Func) (X : World → Prop) : Prop :=
  ∀ {H : Type} {enc : TypeId × Value → H} (W : World) (base : Nat) (args : Array Value) (ds : List (DataW H)) (p : List MemPlace), (∀ (j : Nat) t v, fn.params[j]? = some t → args[j]? = some v → Value.okWide P W .any base t v) →
    DataW.TrodAll enc P W 0 (fun _ => true) true fn.params.toList args.toList ds p → (DataW.weightsEach P fn.params.toList ds).all (· ≤ reachBytes) = true → X W →
    Meets P f args.toList W [] [] (fun e _ => e = .returned (.bool true))
theorem law_lifted {C : Checked} {os : Os} {f : FuncId} {fn : Func} {s : ChangeSpec} {rt : TypeId} {X : World → Prop} {fresh handsOn : Bool} (H : Type) (enc : TypeId × Value → H) (hX : ∀ (w w' : World), w.heap = w'.heap → X w → X w') (own : ownKnob C.prog.godebug = none) (started : os.Started) (noInit : C.prog.inits.idxOf? f = none) (hfn : C.prog.funcs[f]? = some fn)
    (witness : ∃ (w : World) (tape : Tape) (i : Input), w.os = os ∧ (w.forCall tape i).Shaped C.prog ∧ i.vars = [] ∧ Input.okWide C.prog (w.forCall tape i) .any w.heap.size f i ∧
      ((s.pre enc C.prog fn [] false (w.forCall tape i).memory i.args ∧ X (w.forCall tape i).memory) ∧ sizedMet enc C.prog fn (OpenSpec.ofChange s) false (w.forCall tape i).memory i.args) ∧ ({} : Assume).holds C.prog (lone (Frame.enter C.prog f i.args .normal) [] (w.forCall tape i)))
    (hres : fn.resultTypes = #[rt]) (hrt : C.prog.underlying rt = some .bool) (hvars : s.vars = []) (hs : ∀ (H : Type) (ds : List (DataW H)), ds.length = fn.params.toList.length → s.fn H ds = { results := [.lit (.bool true)], args := ds })
    (hl : laidOutB C.prog = true) (hts : fn.params.toList.all (fun t => C.prog.readableRec t && decide (t < C.prog.types.size)) = true) (law : LawWalk C.prog f fn X) :
    ReturnsInHanded {} C os f .any (fun w args => (s.pre enc C.prog fn [] false w args ∧ X w) ∧ sizedMet enc C.prog fn (OpenSpec.ofChange s) false w args) (s.post enc C.prog fn false fresh handsOn false) := by
  refine returnsInHanded_of_change_and (X := fun w _ => X w) (fun w w' _ hh h => hX w w' hh h) own started noInit hfn witness ?_
  intro W base args ds gs before hval hW _ hz hx _
  have hW' := hW
  obtain ⟨p, q, hA, hV, rfl, hfz, hnd⟩ := hW
  rw [hvars] at hV
  obtain ⟨rfl, rfl⟩ := trodVars_none hV
  have hvt : s.plain.varTypes C.prog = [] := by simp [DataSpec.varTypes, ChangeSpec.plain, hvars]
  rw [hvt, List.append_nil, List.append_nil] at hz
  have hlt : ∀ x ∈ p, x.block < W.heap.size := fun x hx => hW'.lt x (List.mem_append_left _ hx)
  have hlen := trodAll_len hA
  refine (law W base args ds p hval hA hz hx W (St.refl W)).mono fun e W' ⟨H', he, hst⟩ => ?_
  subst he
  have hb : Below W.heap.size W W' := ⟨hst.os, hst.tape, hst.output, hst.size, fun k hk => hst.keep k hk (by simp)⟩
  refine ⟨_, rfl, ds, [], _, [], p, [], hW', ?_, ?_, ?_, Below.frame hb _, fun h => by cases h⟩
  · rw [List.append_nil, hs H ds hlen, hres]
    exact trodAll_mk1 (shut_bool hrt true)
  · rw [List.append_nil, hs H ds hlen]
    exact trodAll_below hl hb hts hA hlt
  · rw [hvars, List.append_nil, hs H ds hlen]
    rfl

/- Arguments, opened. -/
theorem cell_lt {w : World} {a : Addr} {v : Value} (h : w.cell? a = some v) : a.block < w.heap.size := by
  rcases Nat.lt_or_ge a.block w.heap.size with h1 | h1
  · exact h1
  · simp [World.cell?, Array.getElem?_eq_none h1] at h
theorem add_block (a : Addr) (k : Nat) : (a.add k).block = a.block := by
  unfold Addr.add
  split <;> rfl
/-- Cells of the world at the beginning stay as long as nothing old may be written. -/
theorem Rd.ofF {F : World} {H : List Res} {ad : Option Addr} {vs : List Value} (h : ∀ j u, vs[j]? = some u → ∃ a, ad = some a ∧ F.cell? (a.add j) = some u) : Rd F [] H ad vs := ⟨fun w hw j u hu => by
  obtain ⟨a, ha, hc⟩ := h j u hu
  refine ⟨a, ha, ?_⟩
  have hlt := cell_lt hc
  have := hw.keep _ hlt (by simp)
  simp only [World.cell?] at hc ⊢
  rw [this]
  exact hc⟩
theorem open_slice_ints {H : Type} {enc : TypeId × Value → H} {P : Program} {W : World} {b0 : Nat} {t e : TypeId} {k : IntKind} {v : Value} {d : DataW H} {ps : List MemPlace} (ht : P.underlying t = some (.slice e)) (he : P.underlying e = some (.int k)) (hc : P.cellsOf e = 1)
    (hval : Value.okWide P W .any b0 t v) (hd : DataW.Trod enc P W 0 (fun _ => true) true t v d ps) :
    ∃ (ad : Option Addr) (cp : Nat) (zs : List Int), v = .slice ad zs.length cp ∧ zs.length ≤ cp ∧ (cp = 0 ∨ ∃ el sp, d = .slice el sp ∧ el.length + sp.length = cp) ∧ (∀ n ∈ zs, (Lit.int k n).wf = true) ∧ ∀ H', Rd W [] H' ad (zs.map (Value.int k)) := by
  obtain ⟨ad, len, cap, rfl⟩ := okWide_slice ht hval
  obtain ⟨fuel, hf⟩ := hd
  rcases open_ints ht he hc hf with ⟨hcs, hx⟩ | ⟨a, len', cap', zs, hcs, _, hl, hm, hz, hx, hcell, hwz⟩
  · simp only [Value.cells, List.cons.injEq, Value.slice.injEq, and_true] at hcs
    obtain ⟨rfl, rfl, rfl⟩ := hcs
    exact ⟨none, 0, [], rfl, Nat.le_refl _, .inl rfl, by simp, fun H' => .ofF fun j u hu => by simp at hu⟩
  · simp only [Value.cells, List.cons.injEq, Value.slice.injEq, and_true] at hcs
    obtain ⟨rfl, rfl, rfl⟩ := hcs
    simp only [if_true] at hz
    simp only [Prod.mk.injEq] at hx
    have hlen : (zs.take len).length = len := by simp; omega
    refine ⟨some a, cap, zs.take len, by rw [hlen], by omega, .inr ⟨_, _, hx.1, ?_⟩, fun n hn => hwz n (List.mem_of_mem_take hn), fun H' => .ofF fun j u hu => ⟨a, rfl, ?_⟩⟩
    · simp [lits]
      omega
    · have hj : j < len := by
        have := (List.getElem?_eq_some_iff.1 hu).1
        have h2 : j < min len zs.length := by simpa using this
        omega
      rw [List.getElem?_map, List.getElem?_take_of_lt hj, List.getElem?_eq_getElem (by omega)] at hu
      simp only [Option.map_some, Option.some.injEq] at hu
      subst hu
      rw [hcell j (by omega)]
      simp [List.getD, show j < zs.length by omega]
theorem u8_of_wf {n : Int} (h : (Lit.int .u8 n).wf = true) : 0 ≤ n ∧ n < 256 := by
  simp only [Lit.wf, IntKind.min, IntKind.max, IntKind.bits, IntKind.signed] at h
  simp at h
  omega
theorem open_bytes {H : Type} {enc : TypeId × Value → H} {P : Program} {W : World} {b0 : Nat} {t e : TypeId} {v : Value} {d : DataW H} {ps : List MemPlace} (ht : P.underlying t = some (.slice e)) (he : P.underlying e = some (.int .u8)) (hc : P.cellsOf e = 1)
    (hval : Value.okWide P W .any b0 t v) (hd : DataW.Trod enc P W 0 (fun _ => true) true t v d ps) :
    ∃ (ad : Option Addr) (cp : Nat) (bs : List UInt8), v = .slice ad bs.length cp ∧ bs.length ≤ cp ∧ (cp = 0 ∨ ∃ el sp, d = .slice el sp ∧ el.length + sp.length = cp) ∧ ∀ H', Rd W [] H' ad (bs.map bV) := by
  obtain ⟨ad, cp, zs, h1, h2, h3, h4, h5⟩ := open_slice_ints ht he hc hval hd
  have hm : (zs.map fun z => UInt8.ofNat z.toNat).map bV = zs.map (Value.int .u8) := by
    rw [List.map_map]
    refine List.map_congr_left fun z hz => ?_
    have := u8_of_wf (h4 z hz)
    simp only [Function.comp, bV, Value.int.injEq, true_and, UInt8.toNat_ofNat']
    omega
  exact ⟨ad, cp, zs.map fun z => UInt8.ofNat z.toNat, by simpa using h1, by simpa using h2, h3, fun H' => by rw [hm]; exact h5 H'⟩

/- Listed arrays of numbers. -/
theorem laid_ints {P : Program} {W : World} {nm : String} {g T E n : Nat} {k : IntKind} {ns : List Int} {cs : Array Value} {fuel : Nat} {p : List MemPlace} {sp : Nat → Bool} (hg : P.globalNamed nm = some g) (hT : P.underlying T = some (.array n E)) (hE : P.underlying E = some (.int k)) (hc : P.cellsOf E = 1)
    (hv : W.var? P nm = some cs) (hd : DataW.trod (fun _ => ()) P W 0 sp false fuel T cs.toList = some (.agg (ns.map fun z => .lit (.int k z)), p)) : ∀ j z, ns[j]? = some z → W.cell? ⟨g, j, none⟩ = some (.int k z) := by
  intro j z hz
  obtain ⟨xs, m, rfl, hx, hlen, hn, hel⟩ := DataW.trod_array hT hd
  simp only [Prod.mk.injEq, DataW.agg.injEq] at hx
  have hj : j < ns.length := (List.getElem?_eq_some_iff.1 hz).1
  have hxl : xs.length = ns.length := by
    have := congrArg List.length hx.1
    simpa using this.symm
  have h1 := hel j (by omega)
  rw [hc, Nat.mul_one, List.getElem?_eq_getElem (by omega)] at h1
  obtain ⟨z', e1, e2, -⟩ := DataW.trod_int hE h1
  have h2 : (xs.map (·.1))[j]? = (ns.map fun z => (DataW.lit (.int k z) : DataW Unit))[j]? := by rw [hx.1]
  rw [List.getElem?_map, List.getElem?_map, hz, List.getElem?_eq_getElem (by omega), e2] at h2
  simp only [Option.map_some, Option.some.injEq, DataW.lit.injEq, Lit.int.injEq, true_and] at h2
  subst h2
  have h3 : cs[j]? = some (.int k z') := by
    have : (cs.toList.drop j).take 1 = [.int k z'] := e1
    have h4 : ((cs.toList.drop j).take 1)[0]? = some (.int k z') := by rw [this]; rfl
    rw [List.getElem?_take_of_lt (by omega), List.getElem?_drop] at h4
    simpa using h4
  rw [World.var?_cell hg hv j]
  exact h3
theorem bytes_bound {H : Type} {P : Program} {ts : List TypeId} {ds : List (DataW H)} {j n cp : Nat} {t e : TypeId} {d : DataW H} (hz : (DataW.weightsEach P ts ds).all (· ≤ reachBytes) = true) (ht : ts[j]? = some t) (hd : ds[j]? = some d) (hu : P.underlying t = some (.slice e)) (hby : 1 ≤ P.bytesOf e) (hle : n ≤ cp) (hcp : cp = 0 ∨ ∃ el sp, d = .slice el sp ∧ el.length + sp.length = cp) : n ≤ 140737488351232 := by
  rcases hcp with h | ⟨el, sp, rfl, h⟩
  · omega
  · have h1 := sized_slice hz ht hd hu
    have h2 : el.length + sp.length ≤ (el.length + sp.length) * P.bytesOf e := Nat.le_mul_of_pos_right _ hby
    have h3 : reachBytes = 140737488351232 := rfl
    omega
end Sg
