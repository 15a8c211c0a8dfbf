/- RingFull: whatever the input, true. Condition: the listed tables hold what the program's text lays (the card ties them to the text). -/
import Derived.Test.YtnimcchalinihaaDoorMg
import Derived.Test.YtnimcchalinihaaDoorCards
import Derived.Test.YtnimcchalinihaaDoorTie
import Derived.SevenTiedAt
import Derived.Lay
import Derived.ChangeMaps5
namespace Go.Proofs.YtnimcchalinihaaDoor
open Sg Go Go.ChangeShapes Go.WideShapes Go.RowKit Go.Lib
set_option maxRecDepth 100000
theorem own : ownKnob Tryd.prog.godebug = none := by kernel_rfl
theorem laidOut : laidOutB Tryd.prog = true := by kernel_rfl
abbrev laid1 : List (String × DataW Unit) := [("unicode/utf8.acceptRanges", Rows.laid_unicode_utf8_acceptRanges), ("unicode/utf8.first", Rows.laid_unicode_utf8_first)]
theorem n_first : Tryd.prog.globalNamed "unicode/utf8.first" = some 0 := by kernel_rfl
theorem n_acc : Tryd.prog.globalNamed "unicode/utf8.acceptRanges" = some 1 := by kernel_rfl
theorem c_u8 : Tryd.prog.cellsOf 5 = 1 := by kernel_rfl
theorem t_first : (Tryd.prog.globals[0]?).map (·.type) = some 75 := by kernel_rfl
theorem t_acc : (Tryd.prog.globals[1]?).map (·.type) = some 78 := by kernel_rfl
theorem first_nums : Rows.laid_unicode_utf8_first = .agg (((List.range 256).map fun c => ((firstT c : Nat) : Int)).map fun z => .lit (.int .u8 z)) := by kernel_rfl
theorem acc_pairs : (Rows.laid_unicode_utf8_acceptRanges : DataW Unit) = .agg ((List.range 16).map fun i => .agg [.lit (.int .u8 (accLo i : Nat)), .lit (.int .u8 (accHi i : Nat))]) := by kernel_rfl
/-- A listed row of pairs of bytes can be read. -/
theorem laid_pairs {P : Program} {W : World} {nm : String} {g T E f0 n : Nat} {ps : List (Int × Int)} {cs : Array Value} {fuel : Nat} {p : List MemPlace} {sp : Nat → Bool} {fa fb : Field} (hg : P.globalNamed nm = some g) (hT : P.underlying T = some (.array n E)) (hE : P.underlying E = some (.struct #[fa, fb])) (hc : P.cellsOf E = 2)
    (ha : fa.type = f0 ∧ fa.offset = 0) (hb : fb.type = f0 ∧ fb.offset = 1) (h0 : P.underlying f0 = some (.int .u8)) (hc0 : P.cellsOf f0 = 1)
    (hv : W.var? P nm = some cs) (hd : DataW.trod (fun _ => ()) P W 0 sp false fuel T cs.toList = some (.agg (ps.map fun z => .agg [.lit (.int .u8 z.1), .lit (.int .u8 z.2)]), p)) :
    ∀ j z, ps[j]? = some z → W.cell? ⟨g, 2 * j, none⟩ = some (.int .u8 z.1) ∧ W.cell? ⟨g, 2 * j + 1, none⟩ = some (.int .u8 z.2) := by
  intro j z hz
  obtain ⟨xs, m, rfl, hx, hlen, hn, hel⟩ := DataW.trod_array hT hd
  simp only [Prod.mk.injEq, DataW.agg.injEq] at hx
  have hj : j < ps.length := (List.getElem?_eq_some_iff.1 hz).1
  have hxl : xs.length = ps.length := by
    have := congrArg List.length hx.1
    simpa using this.symm
  have h1 := hel j (by omega)
  rw [hc, List.getElem?_eq_getElem (by omega)] at h1
  obtain ⟨y0, y1, m', e1, e2, e3, e4⟩ := Go.ChangeShapes.trod_struct2 hE h1
  rw [ha.1, ha.2, hc0, List.drop_zero] at e3
  rw [hb.1, hb.2, hc0] at e4
  obtain ⟨z0, k1, k2, -⟩ := DataW.trod_int h0 e3
  obtain ⟨z1, k3, k4, -⟩ := DataW.trod_int h0 e4
  have h2 : (xs.map (·.1))[j]? = (ps.map fun z => (DataW.agg [.lit (.int .u8 z.1), .lit (.int .u8 z.2)] : DataW Unit))[j]? := by rw [hx.1]
  rw [List.getElem?_map, List.getElem?_map, hz, List.getElem?_eq_getElem (by omega), e1] at h2
  simp only [Option.map_some, Option.some.injEq, DataW.agg.injEq, List.cons.injEq, and_true, k2, k4, DataW.lit.injEq, Lit.int.injEq, true_and] at h2
  obtain ⟨rfl, rfl⟩ := h2
  have q0 : cs[2 * j]? = some (.int .u8 z.1) := by
    have h4 : (((cs.toList.drop (j * 2)).take 2).take 1)[0]? = some (.int .u8 z.1) := by rw [k1]; rfl
    rw [List.getElem?_take_of_lt (by omega), List.getElem?_take_of_lt (by omega), List.getElem?_drop] at h4
    simpa [Nat.mul_comm] using h4
  have q1 : cs[2 * j + 1]? = some (.int .u8 z.2) := by
    have h4 : ((((cs.toList.drop (j * 2)).take 2).drop 1).take 1)[0]? = some (.int .u8 z.2) := by rw [k3]; rfl
    rw [List.getElem?_take_of_lt (by omega), List.getElem?_drop, List.getElem?_take_of_lt (by omega), List.getElem?_drop] at h4
    simpa [Nat.mul_comm, Nat.add_comm] using h4
  exact ⟨by rw [World.var?_cell hg hv]; exact q0, by rw [World.var?_cell hg hv]; exact q1⟩
theorem of_laid {W : World} (h : laidMetH Tryd.prog laid1 W) : Tabs W [] := by
  rw [MakeChecks.laidMetH_plain _ _ _ (by kernel_rfl)] at h
  obtain ⟨ps, hl, -, -⟩ := h
  constructor
  · intro H
    obtain ⟨g', t', cs, fuel, p, h1, h2, h3, h4⟩ := laid_find hl (nm := "unicode/utf8.first") (d := Rows.laid_unicode_utf8_first) (by simp)
    obtain rfl := Option.some.inj (n_first.symm.trans h1)
    obtain rfl := Option.some.inj (t_first.symm.trans h2)
    rw [first_nums] at h4
    have h5 := laid_ints (k := .u8) n_first Tryd.underlying75 Tryd.underlying5 c_u8 h3 h4
    refine .ofF fun j u hu => ⟨_, rfl, ?_⟩
    rw [addr_add, Nat.zero_add]
    unfold firstL at hu
    rw [List.getElem?_map] at hu
    cases hn : (List.range 256)[j]? with
    | none => rw [hn] at hu; cases hu
    | some c =>
      rw [hn] at hu
      simp only [Option.map_some, Option.some.injEq] at hu
      subst hu
      exact h5 j _ (by rw [List.getElem?_map, hn]; rfl)
  · intro H
    obtain ⟨g', t', cs, fuel, p, h1, h2, h3, h4⟩ := laid_find hl (nm := "unicode/utf8.acceptRanges") (d := Rows.laid_unicode_utf8_acceptRanges) (by simp)
    obtain rfl := Option.some.inj (n_acc.symm.trans h1)
    obtain rfl := Option.some.inj (t_acc.symm.trans h2)
    rw [acc_pairs] at h4
    have hmm : ((List.range 16).map fun i => (DataW.agg [.lit (.int .u8 (accLo i : Nat)), .lit (.int .u8 (accHi i : Nat))] : DataW Unit)) = ((List.range 16).map fun i => (((accLo i : Nat) : Int), ((accHi i : Nat) : Int))).map fun z => .agg [.lit (.int .u8 z.1), .lit (.int .u8 z.2)] := by rw [List.map_map]; rfl
    rw [hmm] at h4
    have h5 := laid_pairs n_acc Tryd.underlying78 Tryd.underlying77 (by kernel_rfl) ⟨rfl, rfl⟩ ⟨rfl, rfl⟩ Tryd.underlying5 c_u8 h3 h4
    refine .ofF fun j u hu => ⟨_, rfl, ?_⟩
    rw [addr_add, Nat.zero_add]
    have hj : j < 32 := by
      have := (List.getElem?_eq_some_iff.1 hu).1
      have hlen : accL.length = 32 := by decide
      omega
    have h6 := acc_two ⟨j / 2, by omega⟩
    simp only at h6
    have h7 := h5 (j / 2) (((accLo (j / 2) : Nat) : Int), ((accHi (j / 2) : Nat) : Int)) (by rw [List.getElem?_map, List.getElem?_range (by omega)]; rfl)
    rcases Nat.mod_two_eq_zero_or_one j with hm | hm
    · have h8 : accL[j]? = some (.int .u8 (accLo (j / 2) : Nat)) := by
        have := congrArg (fun l => l[0]?) h6
        rw [show j = j / 2 * 2 by omega]
        simpa [List.getElem?_take, List.getElem?_drop] using this
      rw [h8] at hu
      cases hu
      have := h7.1
      rwa [show 2 * (j / 2) = j by omega] at this
    · have h8 : accL[j]? = some (.int .u8 (accHi (j / 2) : Nat)) := by
        have := congrArg (fun l => l[1]?) h6
        rw [show j = j / 2 * 2 + 1 by omega]
        simpa [List.getElem?_take, List.getElem?_drop, show (j / 2 * 2 + 1) / 2 = j / 2 by omega] using this
      rw [h8] at hu
      cases hu
      have := h7.2
      rwa [show 2 * (j / 2) + 1 = j by omega] at this
theorem wf_i64 {n : Int} (h : (Lit.int .i64 n).wf = true) : -9223372036854775808 ≤ n ∧ n ≤ 9223372036854775807 := by
  simp only [Lit.wf, Bool.and_eq_true, decide_eq_true_eq] at h
  exact h
theorem fullWalk : LawWalkS Tryd.prog 4 Tryd.f4 (laidMetH Tryd.prog laid1) := by
  intro H enc W base args ds p hval hA hz hL hsh
  have hval' : ∀ (j : Nat) t v, Tryd.f4.params[j]? = some t → args[j]? = some v → Value.okWide Tryd.prog W .any base t v := hval
  rw [Tryd.params4] at hA hval'
  obtain ⟨v0, v1, v2, d0, d1, d2, p0, p1, p2, rfl, rfl, rfl, h0, h1, h2⟩ := trodAll_three hA
  obtain ⟨n, rfl, rfl, rfl, wn⟩ := open_int Tryd.underlying2 (hval' 0 2 _ rfl rfl) h0
  obtain ⟨g, rfl, rfl, rfl, wg⟩ := open_int Tryd.underlying2 (hval' 1 2 _ rfl rfl) h1
  obtain ⟨d, rfl, rfl, rfl, wd⟩ := open_int Tryd.underlying3 (hval' 2 3 _ rfl rfl) h2
  exact (full_walk (d := d) (of_laid hL) (wf_i64 wn) (wf_i64 wg)).mono fun _ _ h => h.1
theorem full_lifted (os : Os) (started : os.Started) (H : Type) (enc : TypeId × Value → H) :
    ReturnsInHanded {} Tryd.checked os 4 .any (fun w args => (Rows.ringFullSpec.pre enc Tryd.prog Tryd.f4 [] false w args ∧ laidMetH Tryd.prog laid1 w) ∧ sizedMet enc Tryd.prog Tryd.f4 (OpenSpec.ofChange Rows.ringFullSpec) false w args)
      (Rows.ringFullSpec.post enc Tryd.prog Tryd.f4 false true false false) :=
  law_lifted_shaped (C := Tryd.checked) (X := laidMetH Tryd.prog laid1) H enc (fun _ _ hh h => h.of_heap hh) own started (by kernel_rfl) Tryd.func4
    (ChangeSpec.witness_shaped (enc := enc) (C := Tryd.checked) (os := os) (X := fun w _ => laidMetH Tryd.prog laid1 w) false (World.laidAll Tryd.prog os laid1) #[.int .i64 0, .int .i64 0, .int .i64 0] 8 (World.laidAll_os _ _ _)
      (World.shaped_of_ZipB (by kernel_rfl) (by kernel_rfl)) (by kernel_rfl) (by kernel_rfl) (by kernel_rfl)
      (by rw [MakeChecks.laidMetH_plain _ _ _ (by kernel_rfl)]; exact laidMet_laidAll _ (by kernel_rfl) (by kernel_rfl)))
    (by kernel_rfl) Tryd.underlying4 rfl (fun H ds h => by
      match ds, h with
      | [_, _, _], _ => rfl) laidOut (by kernel_rfl) fullWalk
theorem full_holds : Rows.RingFullSaid :=
  OpenClaim.holds_of_wide 4 Tryd.f4 rfl rfl rfl rfl rfl rfl rfl ⟨rfl, rfl, rfl, rfl, rfl⟩ rfl rfl rfl rfl rfl (by kernel_rfl) Tryd.func4 (by kernel_rfl)
    (of_decide_eq_true (by kernel_rfl)) (by unfold Func.isWrapper; rw [if_neg (of_decide_eq_false (by kernel_rfl))]; exact ⟨rfl, rfl⟩)
    (fun os started H enc _ => full_lifted os started H enc)
theorem ringFull_card : Rows.RingFullCardSaid :=
  Claim7.holds_tied_plain_at .later [] [.data, .pinned] true (true, "7ce464983b1ce357a936992c59e4d55db52f804f08aa351af49802f3aabcfaeb") false
    full_holds (fun _ h => by cases h) (by kernel_rfl) (fun _ h => by cases h) ringFull_row_tie rfl ⟨rfl, rfl⟩ (by kernel_rfl) rfl
    (fun f fn hf hfn => by
      obtain rfl : f = 4 := Option.some.inj ((show Tryd.prog.funcNamed "signet/signetlaw24.RingFull" = some 4 by kernel_rfl).symm.trans hf) |>.symm
      obtain rfl : fn = Tryd.f4 := (Option.some.inj (Tryd.func4.symm.trans hfn)).symm
      exact ⟨by kernel_rfl, fun j t ht => by
        rw [Tryd.params4] at ht
        have hm : t ∈ [2, 3] := by have := Array.mem_of_getElem? ht; simp only [List.mem_toArray, List.mem_cons, List.not_mem_nil, or_false] at this ⊢; rcases this with h | h | h <;> simp [h]
        have hall : ([2, 3].all fun u => !Tryd.prog.wantsStandIn u) = true := by kernel_rfl
        exact (show Tryd.prog.wantsStandIn t = false by simpa using List.all_eq_true.1 hall t hm)⟩)
    (by kernel_rfl)
#print axioms ringFull_card
end Go.Proofs.YtnimcchalinihaaDoor
