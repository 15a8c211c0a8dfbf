/- The program's sum: New, Sum of a state, Sum of parts. -/
import Derived.Test.YtcojlgkfkifhmaaDoorShaC
import Derived.Test.YtcojlgkfkifhmaaDoorMapU
/- words -/
/- maps -/
namespace Go.Proofs.YtcojlgkfkifhmaaDoor
open Sg Go.IntWalk
set_option maxRecDepth 100000
set_option maxHeartbeats 2000000
section
variable {q : Sg.Mode} {c : Ctx} {ds : List Deferred} {H : List Res} {ops : Array Oper} {l : List Oper} {κ : List Res → Env → Prop} {dr : Bool} {e : Env} {ty : TypeId} {pos : String} {aft : Array Edge}
theorem T.stWords {x y : Operand} {b n : Nat} {V U : V8} {rest : List UInt8} {t E : TypeId} {z : Value} {by_ : Nat} [HI c.P t z 8 by_] {f : Res → List Res} (hx : ev e x = some (.pointer (some ⟨b, 1, none⟩))) (hy : ev e y = some (.agg ⟨U.list.map wV⟩))
    (hb : AtB H b (stC V rest n) E f) (hk : Sr (.eff dr) c ds (f (.blk b (stC U rest n) E)) ops l κ e) : Sr (.eff dr) c ds H ops (⟨none, .store t x y, ty, pos, aft, none⟩ :: l) κ e :=
  Sr.storeN (z := z) (by_ := by_) hx hy rfl (by simp [stC, V8.list]) all_wV hk
end
theorem new_spec {F : World} {M : List Nat} {H : List Res} (hG : ∀ H, Rd F M H (some ⟨2, 0, none⟩) (start256.list.map wV)) :
    Meets Tryd.prog 22 [.int .i64 1] F M H (fun e H' => ∃ nb, e = .returned (.pointer (some ⟨nb, 0, none⟩)) ∧ H' = stR nb start256 (List.replicate 128 0) 0 :: H) := by
  refine Meets.enter Tryd.func22 rfl rfl ?_
  repeat' (first | ((with_reducible apply T.loadGA); apply rfl; apply rfl; exact hG _; apply rfl; decide; apply rfl) | ((with_reducible apply T.mv); apply rfl; apply rfl) | ((with_reducible apply T.asn); apply rfl; apply rfl) | ((with_reducible apply T.nilCheck); apply rfl; apply rfl) | ((with_reducible apply T.fieldAddrZ); apply rfl; apply rfl) | ((with_reducible apply T.eql); apply rfl; apply rfl; apply rfl) | ((with_reducible apply T.buildL); apply rfl; apply rfl; apply rfl) | ((with_reducible apply T.box); apply rfl; apply rfl; intro nb) | with_reducible refine Sr.nil ?_ | with_reducible refine S.seq ?_ | with_reducible refine S.block ?_ | with_reducible refine S.reg ?_ | ((with_reducible apply S.condT); apply rfl) | fail)
  refine Sr.weaken (H' := stR nb ⟨0, 0, 0, 0, 0, 0, 0, 0⟩ (List.replicate 128 0) 0 :: H) ?_ (fun _ h => h)
  repeat' (first | ((with_reducible apply T.stWords); apply rfl; apply rfl; infer_instance) | ((with_reducible apply T.mv); apply rfl; apply rfl) | ((with_reducible apply T.asn); apply rfl; apply rfl) | with_reducible refine Sr.nil ?_ | with_reducible refine S.seq ?_ | with_reducible refine S.reg ?_ | with_reducible refine S.inBlock ?_ | ((with_reducible apply T.retW); apply rfl) | fail)
  exact ⟨_, PSub.refl _, _, rfl, rfl⟩
theorem stt_nil : Stt [] start256 (List.replicate 128 0) := ⟨List.length_replicate .., rfl, rfl⟩
theorem bits8_at {n j : Nat} (h : j < 8) : (bits8 n).take j ++ [UInt8.ofNat (((n * 2 ^ 3 : Nat) : Int).toNat / 2 ^ (8 * (7 - (j : Int))).toNat)] = (bits8 n).take (j + 1) := by
  have : j = 0 ∨ j = 1 ∨ j = 2 ∨ j = 3 ∨ j = 4 ∨ j = 5 ∨ j = 6 ∨ j = 7 := by omega
  rw [Int.toNat_natCast]
  rcases this with rfl | rfl | rfl | rfl | rfl | rfl | rfl | rfl <;> rfl
theorem flat4_len : ∀ xs : List UInt32, (xs.flatMap bytes4).length = 4 * xs.length
  | [] => rfl
  | x :: r => by rw [List.flatMap_cons, List.length_append, flat4_len r]; simp only [bytes4, List.length_cons, List.length_nil]; omega
theorem take_flat {xs : List UInt32} {i : Nat} (h : i < xs.length) : (xs.take (i + 1)).flatMap bytes4 = (xs.take i).flatMap bytes4 ++ bytes4 (xs.getD i 0) := by
  rw [List.take_succ_eq_append_getElem h, List.flatMap_append]
  simp [List.getD, h]
def padZ (z : Nat) : List UInt8 := 128 :: List.replicate z 0
theorem stSum_spec {F : World} {M : List Nat} {H : List Res} {b : Nat} {V : V8} {rest l : List UInt8} (hS : Stt l V rest) (hK : ∀ H, Rd F M H (some ⟨9, 0, none⟩) (k256.map wV)) (hn : l.length ≤ 140737488355328) :
    Meets Tryd.prog 24 [.pointer (some ⟨b, 0, none⟩)] F M (stR b V rest l.length :: H) (fun e H' => ∃ ad cp, e = .returned (.slice ad (sha256 l).length cp) ∧ H' = .row ad cp 5 1 (sha256 l).length ((sha256 l).map bV) :: stR b V rest l.length :: H) := by
  refine Meets.enter Tryd.func24 rfl rfl ?_
  have hr := hS.len
  repeat' (first | ((with_reducible apply T.loadW); apply rfl; apply rfl; infer_instance; exact stC_len hr; apply rfl) | ((with_reducible apply T.storeW); apply rfl; apply rfl; infer_instance; exact stC_len hr; apply rfl; exact stC_all) | ((with_reducible apply T.mv); apply rfl; apply rfl) | ((with_reducible apply T.asn); apply rfl; apply rfl) | ((with_reducible apply T.nilCheck); apply rfl; apply rfl) | ((with_reducible apply T.alloc); apply rfl; intro nb) | with_reducible refine Sr.nil ?_ | with_reducible refine S.seq ?_ | with_reducible refine S.reg ?_ | fail)
  ((with_reducible apply S.draw); (case Hs => exact []); (case es => exact  []); (case n => exact  7); (case hn => rfl))
  repeat' (first | ((with_reducible apply SA.qcall); apply rfl; apply rfl; apply rfl; kernel_rfl; apply rfl; infer_instance; apply rfl; with_reducible exact block_pure) | ((with_reducible apply T.stLoadN); apply rfl; infer_instance; exact hr; apply rfl) | ((with_reducible apply T.mv); apply rfl; apply rfl) | ((with_reducible apply T.asn); apply rfl; apply rfl) | ((with_reducible apply T.fieldAddrZ); apply rfl; apply rfl) | ((with_reducible apply T.load); apply rfl; apply rfl; infer_instance; apply rfl; apply rfl) | with_reducible refine Sr.nil ?_ | with_reducible refine S.seq ?_ | with_reducible refine S.reg ?_ | ((with_reducible apply SA.qn); apply rfl; apply rfl; apply rfl; apply rfl; kernel_rfl) | ((with_reducible apply SA.done); apply rfl; kernel_rfl) | fail)
  repeat' (first | ((with_reducible apply T.quoI64 (m := 64) (n := 8)); apply rfl; apply rfl; omega; omega; apply rfl) | ((with_reducible apply T.asn); apply rfl; apply rfl) | ((with_reducible apply T.bs); apply rfl; apply rfl; apply rfl; apply rfl; apply rfl; apply rfl; intro nb) | with_reducible refine Sr.nil ?_ | with_reducible refine S.seq ?_ | with_reducible refine S.block ?_ | with_reducible refine S.reg ?_ | fail)
  rename_i sb
  refine S.rowOf (n := 1) rfl (by decide) ?_
  have hz := zeros_spec l.length
  have hpl : ∀ z, (padZ z).length = z + 1 := fun z => by simp [padZ]
  refine S.loopE 1 [3, 4, 5, 6] (fun R b' μ H' e => ∃ (z : Nat) (ad : Option Addr) (cp : Nat), H' = .row ad cp 5 1 (padZ z).length ((padZ z).map bV) :: R ∧ e = (7, .slice ad (padZ z).length cp) :: b' ∧ z ≤ zeros l.length ∧ μ = zeros l.length - z) rfl rfl ?_ _ _ ⟨0, _, _, rfl, rfl, by omega, rfl⟩ (by repeat' first | exact trivial | refine And.intro rfl ?_)
  rintro _ _ _ ⟨z, ad, cp, rfl, rfl, hzl, rfl⟩ ih
  have hp := hpl z
  by_cases h1 : z < zeros l.length
  · have hne := zeros_least l.length z h1
    have hz1 : padZ z ++ [0] = padZ (z + 1) := by rw [padZ, padZ, List.replicate_succ', List.cons_append]
    repeat' (first | ((with_reducible apply T.remU64 (n := 64)); apply rfl; apply rfl; omega; apply rfl) | ((with_reducible apply T.remI64 (n := 64)); apply rfl; apply rfl; omega; apply rfl) | ((with_reducible apply T.addNN); apply rfl; apply rfl; omega; apply rfl) | (refine T.appendB (m := 0) rfl rfl inferInstance rfl ⟨by omega, by omega⟩ rfl ?_; intro na nc) | ((with_reducible apply T.mv); apply rfl; apply rfl) | ((with_reducible apply T.asn); apply rfl; apply rfl) | ((with_reducible apply T.len); apply rfl; apply rfl) | ((with_reducible apply T.neq); apply rfl; apply rfl; apply rfl) | ((with_reducible apply T.subI); apply rfl; apply rfl; omega; apply rfl) | ((with_reducible apply T.convI64); apply rfl; omega; apply rfl) | ((with_reducible apply T.convU64); apply rfl; omega; apply rfl) | ((with_reducible apply T.bs); apply rfl; apply rfl; apply rfl; apply rfl; apply rfl; apply rfl; intro nb) | with_reducible refine Sr.nil ?_ | with_reducible refine S.seq ?_ | with_reducible refine S.block ?_ | with_reducible refine S.reg ?_ | with_reducible refine S.skip ?_ | with_reducible refine S.inBlock ?_ | ((with_reducible apply S.condQ); apply rfl; all_goals (intro _; try (exfalso; omega))) | fail)
    rw [hz1, show (padZ z).length + 1 = (padZ (z + 1)).length by rw [hpl, hpl]]
    exact ih _ _ _ _ ⟨z + 1, _, _, rfl, rfl, by omega, rfl⟩ (by omega) (by repeat' first | exact trivial | refine And.intro rfl ?_)
  · obtain rfl : z = zeros l.length := by omega
    clear ih
    repeat' (first | ((with_reducible apply T.remU64 (n := 64)); apply rfl; apply rfl; omega; apply rfl) | ((with_reducible apply T.remI64 (n := 64)); apply rfl; apply rfl; omega; apply rfl) | ((with_reducible apply T.addNN); apply rfl; apply rfl; omega; apply rfl) | ((with_reducible apply T.mv); apply rfl; apply rfl) | ((with_reducible apply T.asn); apply rfl; apply rfl) | ((with_reducible apply T.len); apply rfl; apply rfl) | ((with_reducible apply T.neq); apply rfl; apply rfl; apply rfl) | ((with_reducible apply T.subI); apply rfl; apply rfl; omega; apply rfl) | ((with_reducible apply T.convI64); apply rfl; omega; apply rfl) | ((with_reducible apply T.convU64); apply rfl; omega; apply rfl) | with_reducible refine Sr.nil ?_ | with_reducible refine S.seq ?_ | with_reducible refine S.block ?_ | with_reducible refine S.reg ?_ | ((with_reducible apply S.exit); apply rfl) | ((with_reducible apply S.condQ); apply rfl; all_goals (intro _; try (exfalso; omega))) | fail)
    refine S.loopE 1 [3, 5] (fun R b' μ H' e => ∃ (j : Nat) (pl : List UInt8) (ad : Option Addr) (cp : Nat), H' = .row ad cp 5 1 pl.length (pl.map bV) :: R ∧ e = (7, .slice ad pl.length cp) :: (8, .int .i64 (7 - (j : Int))) :: b' ∧ pl = padZ (zeros l.length) ++ (bits8 l.length).take j ∧ j ≤ 8 ∧ μ = 8 - j) rfl rfl ?_ _ _ ⟨0, padZ (zeros l.length), _, _, rfl, rfl, by rw [List.take_zero, List.append_nil], by omega, rfl⟩ (by repeat' first | exact trivial | refine And.intro rfl ?_)
    rintro _ _ _ ⟨j, pl, ad, cp, rfl, rfl, hpe, hj, rfl⟩ ih
    have hpl2 : pl.length = zeros l.length + 1 + j := by rw [hpe, List.length_append, hpl, List.length_take]; simp only [bits8, List.length_map, List.length_cons, List.length_nil]; omega
    by_cases h2 : j < 8
    · repeat' (first | ((with_reducible apply T.shlU64 (n := 3)); apply rfl; apply rfl; omega; omega; apply rfl) | ((with_reducible apply T.shrGU64); apply rfl; apply rfl; omega; apply rfl) | ((with_reducible apply T.convBU64); apply rfl; apply rfl) | ((with_reducible apply T.mv); apply rfl; apply rfl) | ((with_reducible apply T.asn); apply rfl; apply rfl) | ((with_reducible apply T.lss); apply rfl; apply rfl; apply rfl) | ((with_reducible apply T.geq); apply rfl; apply rfl; apply rfl) | ((with_reducible apply T.subI); apply rfl; apply rfl; omega; apply rfl) | ((with_reducible apply T.mulI); apply rfl; apply rfl; omega; apply rfl) | ((with_reducible apply T.bs); apply rfl; apply rfl; apply rfl; apply rfl; apply rfl; apply rfl; intro nb) | ((with_reducible apply T.appendB); apply rfl; apply rfl; infer_instance; apply rfl; (constructor <;> omega); apply rfl; intro na nc) | with_reducible refine Sr.nil ?_ | with_reducible refine S.seq ?_ | with_reducible refine S.block ?_ | with_reducible refine S.reg ?_ | with_reducible refine S.skip ?_ | with_reducible refine S.inBlock ?_ | ((with_reducible apply S.condQ); apply rfl; all_goals (intro _; try (exfalso; omega))) | fail)
      have he := bits8_at (n := l.length) h2
      generalize UInt8.ofNat (((l.length * 2 ^ 3 : Nat) : Int).toNat / 2 ^ (8 * (7 - (j : Int))).toNat) = x at *
      rw [show (7 - (j : Int) - 1) = 7 - ((j + 1 : Nat) : Int) by omega, show pl.length + 1 = (pl ++ [x]).length by simp]
      exact ih _ _ _ _ ⟨j + 1, pl ++ [x], _, _, rfl, rfl, by rw [hpe, List.append_assoc, he], by omega, rfl⟩ (by omega) (by repeat' first | exact trivial | refine And.intro rfl ?_)
    · obtain rfl : j = 8 := by omega
      clear ih
      refine S.capR (ad := ad) inferInstance (fun hcap => ?_)
      have hpad : l ++ pl = padded l := by rw [hpe, padded]; rfl
      repeat' (first | ((with_reducible apply T.mv); apply rfl; apply rfl) | ((with_reducible apply T.geq); apply rfl; apply rfl; apply rfl) | with_reducible refine Sr.nil ?_ | with_reducible refine S.seq ?_ | with_reducible refine S.reg ?_ | ((with_reducible apply S.exit); apply rfl) | ((with_reducible apply S.condF); apply rfl) | fail)
      refine Sr.front sb ?_
      refine T.call rfl rfl (write_spec hS hK inferInstance hcap (by omega)) ?_
      rintro _ _ ⟨rfl, V', rest', rfl, hS'⟩
      have hr' := hS'.len
      have hsum : sha256 l = V'.list.flatMap bytes4 := by
        rw [hS'.val, hpad]
        rfl
      generalize (l ++ pl).length = n'
      repeat' (first | ((with_reducible apply T.mv); apply rfl; apply rfl) | ((with_reducible apply T.asn); apply rfl; apply rfl) | ((with_reducible apply T.fieldAddrZ); apply rfl; apply rfl) | ((with_reducible apply T.load); apply rfl; apply rfl; infer_instance; apply rfl; apply rfl) | ((with_reducible apply T.eql); apply rfl; apply rfl; apply rfl) | ((with_reducible apply T.loadN); apply rfl; apply rfl; infer_instance; (first | rfl | (simp; done)); apply rfl) | with_reducible refine Sr.nil ?_ | with_reducible refine S.seq ?_ | with_reducible refine S.block ?_ | with_reducible refine S.reg ?_ | ((with_reducible apply S.condT); apply rfl) | (with_reducible apply T.ofRet) | fail)
      refine S.nilrow 5 1 ?_
      have hvl : V'.list.length = 8 := rfl
      have hfl : ∀ i, i ≤ 8 → ((V'.list.take i).flatMap bytes4).length = 4 * i := fun i hi => by rw [flat4_len, List.length_take]; omega
      refine S.loopE 1 [] (fun R b' μ H' e => ∃ (i : Nat) (o : List UInt8) (ad : Option Addr) (cp : Nat), H' = .row ad cp 5 1 o.length (o.map bV) :: R ∧ e = (10, .slice ad o.length cp) :: (76, .int .i64 i) :: (75, .agg ⟨V'.list.map wV⟩) :: b' ∧ o = (V'.list.take i).flatMap bytes4 ∧ i ≤ 8 ∧ μ = 8 - i) rfl rfl ?_ _ _ ⟨0, [], _, _, rfl, rfl, rfl, by omega, rfl⟩ (by repeat' first | exact trivial | refine And.intro rfl ?_)
      rintro _ _ _ ⟨i, o, ad, cp, rfl, rfl, ho, hi, rfl⟩ ih
      have hol := hfl i hi
      rw [← ho] at hol
      by_cases h3 : i < 8
      · repeat' (first | ((with_reducible apply T.append4); apply rfl; apply rfl; infer_instance; apply rfl; (constructor <;> omega); apply rfl; intro na nc) | ((with_reducible apply T.wshr); apply rfl; apply rfl; omega; apply rfl) | ((with_reducible apply T.wbyte); apply rfl; apply rfl) | ((with_reducible apply T.widx); apply rfl; apply rfl; (first | omega | (simp only [List.length_append, List.length_replicate, wordsN_len, sched_len]; omega) | assumption | (simp; done) | (simp; omega)); apply rfl) | ((with_reducible apply T.mv); apply rfl; apply rfl) | ((with_reducible apply T.asn); apply rfl; apply rfl) | ((with_reducible apply T.lss); apply rfl; apply rfl; apply rfl) | ((with_reducible apply T.addI); apply rfl; apply rfl; omega; apply rfl) | ((with_reducible apply T.bs); apply rfl; apply rfl; apply rfl; apply rfl; apply rfl; apply rfl; intro nb) | with_reducible refine Sr.nil ?_ | with_reducible refine S.seq ?_ | with_reducible refine S.block ?_ | with_reducible refine S.reg ?_ | with_reducible refine S.skip ?_ | with_reducible refine S.inBlock ?_ | ((with_reducible apply S.condQ); apply rfl; all_goals (intro _; try (exfalso; omega))) | fail)
        have ho2 : o ++ bytes4 (V'.list.getD i 0) = (V'.list.take (i + 1)).flatMap bytes4 := by rw [take_flat (by omega), ho]
        have ho3 : o.length + 4 = (o ++ bytes4 (V'.list.getD i 0)).length := by rw [List.length_append]; rfl
        rw [ho3]
        exact ih _ _ _ _ ⟨i + 1, o ++ bytes4 (V'.list.getD i 0), _, _, rfl, rfl, ho2, by omega, rfl⟩ (by omega) (by repeat' first | exact trivial | refine And.intro rfl ?_)
      · obtain rfl : i = 8 := by omega
        rw [List.take_of_length_le (by omega), ← hsum] at ho
        subst ho
        repeat' (first | ((with_reducible apply T.mv); apply rfl; apply rfl) | ((with_reducible apply T.asn); apply rfl; apply rfl) | ((with_reducible apply T.lss); apply rfl; apply rfl; apply rfl) | with_reducible refine Sr.nil ?_ | with_reducible refine S.seq ?_ | with_reducible refine S.reg ?_ | ((with_reducible apply S.exit); apply rfl) | ((with_reducible apply S.condF); apply rfl) | ((with_reducible apply T.retW); apply rfl) | fail)
        exact ⟨_, by ((repeat (first | dsimp only [List.set_cons_zero] | dsimp only [List.set_cons_succ])); repeat' first | exact PSub.refl _ | exact PSub.nil | ((with_reducible apply PSub.take); (repeat' first | (with_reducible exact pick_hd) | (with_reducible apply pick_tl))) | (with_reducible apply PSub.drop) | ((apply PSub.take); (repeat' first | exact pick_hd | (apply pick_tl)))), _, _, rfl, rfl⟩
theorem sum_spec {F : World} {M : List Nat} {H : List Res} {pa : Option Addr} {pc : Nat} {ps : List (Option Addr × Nat × List UInt8)} (hK : ∀ H, Rd F M H (some ⟨9, 0, none⟩) (k256.map wV)) (hG : ∀ H, Rd F M H (some ⟨2, 0, none⟩) (start256.list.map wV))
    (hp : Rd F M H pa (ps.map fun p => .slice p.1 p.2.2.length p.2.1)) (hb : ∀ p ∈ ps, Rd F M H p.1 (p.2.2.map bV) ∧ p.2.2.length ≤ p.2.1) (hn : (ps.flatMap (·.2.2)).length ≤ 140737488355328) (hl : ps.length ≤ 140737488355328) :
    Meets Tryd.prog 14 [.int .i64 1, .slice pa ps.length pc] F M H (fun e H' => ∃ ad cp, e = .returned (.slice ad 32 cp) ∧ H' = .row ad cp 5 1 32 ((sha256 (ps.flatMap (·.2.2))).map bV) :: H) := by
  refine Meets.enter Tryd.func14 rfl rfl ?_
  repeat' (first | ((with_reducible apply T.mv); apply rfl; apply rfl) | ((with_reducible apply T.asn); apply rfl; apply rfl) | with_reducible refine Sr.nil ?_ | with_reducible refine S.seq ?_ | with_reducible refine S.reg ?_ | fail)
  refine T.call rfl rfl (new_spec hG) ?_
  rintro _ _ ⟨sb, rfl, rfl⟩
  repeat' (first | ((with_reducible apply T.eqlP); apply rfl; apply rfl) | ((with_reducible apply T.mv); apply rfl; apply rfl) | ((with_reducible apply T.asn); apply rfl; apply rfl) | ((with_reducible apply T.len); apply rfl; apply rfl) | with_reducible refine Sr.nil ?_ | with_reducible refine S.seq ?_ | with_reducible refine S.block ?_ | with_reducible refine S.reg ?_ | with_reducible refine S.skip ?_ | ((with_reducible apply S.condF); apply rfl) | (with_reducible apply T.ofRet) | fail)
  refine S.loopE 1 [5, 12, 13] (fun R b' μ H' e => ∃ (i : Nat) (l : List UInt8) (V : V8) (rest : List UInt8), H' = stR sb V rest l.length :: R ∧ e = (14, .int .i64 i) :: b' ∧ Stt l V rest ∧ l = (ps.take i).flatMap (·.2.2) ∧ i ≤ ps.length ∧ μ = ps.length - i) rfl rfl ?_ _ _ ⟨0, [], _, _, rfl, rfl, stt_nil, rfl, by omega, rfl⟩ (by repeat' first | exact trivial | refine And.intro rfl ?_)
  rintro _ _ _ ⟨i, l, V, rest, rfl, rfl, hS, hl, hi, rfl⟩ ih
  have hsp : ps.flatMap (·.2.2) = l ++ (ps.drop i).flatMap (·.2.2) := by rw [hl, ← List.flatMap_append, List.take_append_drop]
  by_cases h1 : i < ps.length
  · obtain ⟨p, hpi⟩ : ∃ p, ps[i]? = some p := ⟨_, List.getElem?_eq_getElem h1⟩
    have hpm := List.mem_of_getElem? hpi
    have hv : (ps.map fun p => (Value.slice p.1 p.2.2.length p.2.1))[i]? = some (.slice p.1 p.2.2.length p.2.1) := by rw [List.getElem?_map, hpi]; rfl
    obtain ⟨hb1, hb2⟩ := hb p hpm
    have hpg : ps[i] = p := by rw [List.getElem?_eq_getElem h1] at hpi; exact Option.some.inj hpi
    have hsn : l ++ p.2.2 = (ps.take (i + 1)).flatMap (·.2.2) := by
      rw [List.take_succ_eq_append_getElem h1, List.flatMap_append, ← hl, hpg]
      simp
    have hle : (l ++ p.2.2).length ≤ 140737488355328 := by
      rw [hsn]
      refine Nat.le_trans ?_ hn
      conv => rhs; rw [← List.take_append_drop (i + 1) ps, List.flatMap_append]
      rw [List.length_append]
      omega
    rw [List.length_append] at hle
    repeat' (first | ((with_reducible apply T.loadE); apply rfl; apply rfl; infer_instance; exact hv; apply rfl) | ((with_reducible apply T.mv); apply rfl; apply rfl) | ((with_reducible apply T.asn); apply rfl; apply rfl) | ((with_reducible apply T.lss); apply rfl; apply rfl; apply rfl) | ((with_reducible apply T.ixN); apply rfl; apply rfl; infer_instance; omega; (first | omega | (simp only [List.length_map]; omega) | (simp; omega)); apply rfl) | with_reducible refine Sr.nil ?_ | with_reducible refine S.seq ?_ | with_reducible refine S.block ?_ | with_reducible refine S.reg ?_ | with_reducible refine S.skip ?_ | ((with_reducible apply S.condQ); apply rfl; all_goals (intro _; try (exfalso; omega))) | fail)
    refine T.call rfl rfl (write_spec hS hK hb1 hb2 (by omega)) ?_
    rintro _ _ ⟨rfl, V', rest', rfl, hS'⟩
    repeat' (first | ((with_reducible apply T.mv); apply rfl; apply rfl) | ((with_reducible apply T.addI); apply rfl; apply rfl; omega; apply rfl) | with_reducible refine Sr.nil ?_ | with_reducible refine S.reg ?_ | with_reducible refine S.inBlock ?_ | (with_reducible apply T.ofRet) | fail)
    exact ih _ _ _ _ ⟨i + 1, _, V', rest', rfl, rfl, hS', hsn, by omega, rfl⟩ (by omega) (by repeat' first | exact trivial | refine And.intro rfl ?_)
  · obtain rfl : i = ps.length := by omega
    rw [List.take_length] at hl
    rw [← hl] at hn ⊢
    repeat' (first | ((with_reducible apply T.mv); apply rfl; apply rfl) | ((with_reducible apply T.lss); apply rfl; apply rfl; apply rfl) | with_reducible refine Sr.nil ?_ | with_reducible refine S.seq ?_ | with_reducible refine S.reg ?_ | ((with_reducible apply S.exit); apply rfl) | ((with_reducible apply S.condQ); apply rfl; all_goals (intro _; try (exfalso; omega))) | fail)
    refine T.call rfl rfl (stSum_spec hS hK hn) ?_
    rintro _ _ ⟨ad, cp, rfl, rfl⟩
    rw [sha256_len]
    repeat' (first | ((with_reducible apply T.asn); apply rfl; apply rfl) | with_reducible refine Sr.nil ?_ | ((with_reducible apply T.retW); apply rfl) | (with_reducible apply T.ofRet) | fail)
    exact ⟨_, by ((repeat (first | dsimp only [List.set_cons_zero] | dsimp only [List.set_cons_succ])); repeat' first | exact PSub.refl _ | exact PSub.nil | ((with_reducible apply PSub.take); (repeat' first | (with_reducible exact pick_hd) | (with_reducible apply pick_tl))) | (with_reducible apply PSub.drop) | ((apply PSub.take); (repeat' first | exact pick_hd | (apply pick_tl)))), _, _, rfl, rfl⟩
end Go.Proofs.YtcojlgkfkifhmaaDoor
