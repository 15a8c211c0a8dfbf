/- Texts put together by a program: KsA RngA Lock Defr RngB Clr RngC RngD RngE RngF. -/
import Derived.Test.YtnimcchalinihaaDoorMe
import Derived.Test.YtnimcchalinihaaDoorFacts
import Derived.Test.YtnimcchalinihaaDoorMa
import Derived.Conc.MuLone
import Derived.KernelRfl
import Derived.Lib.SliceRun
import Derived.ArgAppend
/- The walk of keyset.Parse of the set without a key. -/
namespace Sg
/-- {"keys":[]} -/
def noneT : List UInt8 := [123, 34, 107, 101, 121, 115, 34, 58, 91, 93, 125]
def nKeys : List UInt8 := [107, 101, 121, 115]
def noneV : List Nd := [⟨7, [], [], false, 0, 1⟩, ⟨6, nKeys, [], false, 0, 0⟩]
theorem none_parse : ∃ a, parseX wholeX noneT = .ok a noneV := by
  refine ⟨11, ?_⟩
  kernel_rfl
end Sg
namespace Go.Proofs.YtnimcchalinihaaDoor
open Sg Go.IntWalk
set_option maxRecDepth 100000
set_option maxHeartbeats 4000000
section
variable {F : World} {M : List Nat} {H : List Res}
theorem none_at : At noneV 0 ⟨7, [], [], false, 0, 1⟩ [[⟨6, nKeys, [], false, 0, 0⟩]] [] := ⟨rfl, rfl, fun x hx => by rw [List.mem_singleton.1 hx]; exact Fo.one (m := 0) rfl .nil⟩
theorem none_in : At noneV 1 ⟨6, nKeys, [], false, 0, 0⟩ [] [] := ⟨rfl, rfl, fun x hx => by cases hx⟩
theorem ksNone_spec (hT : Tabs F M) : Meets Tryd.prog 28 [sV noneT] F M H (fun e H' => e = .returned (.tuple ⟨[.slice none 0 0, .int .i64 0]⟩) ∧ H' = H) := by
  refine Meets.enter Tryd.func28 rfl rfl ?_
  obtain ⟨a, hp⟩ := none_parse
  have h1 := parse_spec (H := H) (t := noneT) hT (by decide)
  rw [hp] at h1
  repeat' (first | (apply T.slen; apply rfl; apply rfl) | (apply T.mv; apply rfl; apply rfl) | (apply T.asn; apply rfl; apply rfl) | (apply T.gtr; apply rfl; apply rfl; apply rfl) | with_reducible refine Sr.nil ?_ | with_reducible refine S.seq ?_ | with_reducible refine S.reg ?_ | with_reducible refine S.skip ?_ | (apply S.condFV; apply rfl; (first | with_reducible rfl | decide)) | fail)
  refine T.call rfl rfl h1 ?_
  rintro _ _ ⟨oa, oc, rfl, rfl⟩
  repeat' (first | (apply T.mv; apply rfl; apply rfl) | (apply T.asn; apply rfl; apply rfl) | (apply T.neq; apply rfl; apply rfl; apply rfl) | (apply T.extract; apply rfl; apply rfl; apply rfl) | with_reducible refine Sr.nil ?_ | with_reducible refine S.seq ?_ | with_reducible refine S.reg ?_ | with_reducible refine S.skip ?_ | (apply S.condFV; apply rfl; (first | with_reducible rfl | decide)) | (with_reducible apply T.ofRet) | fail)
  refine T.call rfl rfl (member_spec (v := noneV) (p := 0) (key := nKeys) rfl (by decide) none_at) ?_
  rintro _ _ ⟨rfl, hH⟩
  have hH2 := hH.symm
  subst hH2
  rw [show memP 0 ⟨7, [], [], false, 0, 1⟩ [[⟨6, nKeys, [], false, 0, 0⟩]] nKeys = 1 from rfl]
  repeat' (first | (apply Sr.same; refine T.ixF (g := ndV) (sz := 6) (i := 1) (xs := noneV) rfl rfl inferInstance (fun _ => rfl) rfl (by decide) (by decide) rfl ?_) | (apply Sr.same; refine T.fieldAddrF (g := ndV) (sz := 6) (xs := noneV) rfl inferInstance (fun _ => rfl) rfl (by decide) rfl ?_) | (apply Sr.same; refine T.loadF (g := ndV) (v := .int .i64 6) (xs := noneV) (a := ⟨6, nKeys, [], false, 0, 0⟩) rfl rfl inferInstance (fun _ => rfl) rfl rfl rfl rfl ?_) | (apply T.mv; apply rfl; apply rfl) | (apply T.asn; apply rfl; apply rfl) | (apply T.lss; apply rfl; apply rfl; apply rfl) | (apply T.neq; apply rfl; apply rfl; apply rfl) | (apply T.pickF; apply rfl; apply rfl; apply rfl) | with_reducible refine Sr.nil ?_ | with_reducible refine S.seq ?_ | with_reducible refine S.reg ?_ | with_reducible refine S.skip ?_ | (apply T.ungV; apply rfl; (first | with_reducible rfl | decide)) | (apply S.condFV; apply rfl; (first | with_reducible rfl | decide)) | (with_reducible apply T.ofRet) | fail)
  refine T.call rfl rfl (kids_spec (v := noneV) (p := 1) rfl (by decide) none_in) ?_
  rintro _ _ ⟨ka, kc, rfl, rfl⟩
  repeat' (first | (apply T.mv; apply rfl; apply rfl) | (apply T.len; apply rfl; apply rfl) | with_reducible refine Sr.nil ?_ | with_reducible refine S.block ?_ | (with_reducible apply T.ofRet) | fail)
  refine S.loopE 0 [4, 39, 40] (fun R b' μ H' e => H' = R ∧ e = (8, .slice none 0 0) :: (41, .int .i64 0) :: b' ∧ μ = 0) rfl rfl ?_ _ _ ⟨rfl, rfl, rfl⟩ (by repeat' first | exact trivial | refine And.intro rfl ?_)
  rintro _ _ _ ⟨hR, rfl, rfl⟩ ih
  have hR2 := hR.symm
  subst hR2
  clear ih
  repeat' (first | (apply T.mv; apply rfl; apply rfl) | (apply T.asn; apply rfl; apply rfl) | (apply T.lss; apply rfl; apply rfl; apply rfl) | with_reducible refine Sr.nil ?_ | with_reducible refine S.seq ?_ | with_reducible refine S.reg ?_ | (apply S.exit; apply rfl) | (apply S.condFV; apply rfl; (first | with_reducible rfl | decide)) | (apply T.retW; apply rfl) | fail)
  exact ⟨_, PSub.drop (PSub.drop (PSub.refl _)), rfl, rfl⟩
end
end Go.Proofs.YtnimcchalinihaaDoor
/- The ring of key sets: what it is made of; the walks of its small functions. -/
namespace Sg
/-- A key set in a ring: its block, its map's; version, end, has it none. -/
structure Rg where
  b : Nat
  mb : Nat
  ver : Int
  till : Int
  op : Bool
def Rg.live (s : Rg) (now : Int) : Bool := s.op || decide (now < s.till)
def Rg.close (u : Int) (s : Rg) : Rg := if s.op then { s with op := false, till := u } else s
def endI (now grace : Int) : Int := if 9223372036854775807 - grace < now then 9223372036854775807 else now + grace
/-- Does a set still count behind a Rotate? -/
def Rg.stays (now u : Int) (s : Rg) : Bool := if s.op then decide (now < u) else decide (now < s.till)
/-- A ring. -/
structure Rn where
  begun : Bool
  clock : Int
  last : Int
  sets : List Rg
def Rn.back (r : Rn) (now : Int) : Bool := r.begun && decide (now < r.clock)
end Sg
namespace Go.Proofs.YtnimcchalinihaaDoor
open Sg Go.IntWalk
set_option maxRecDepth 100000
set_option maxHeartbeats 4000000
abbrev rgV (s : Rg) : List Value := [sV noneT, .map (some s.mb), .int .i64 s.ver, .int .i64 s.till, .bool s.op]
abbrev rnV (mu : Int) (r : Rn) (a : Option Addr) (cp : Nat) : List Value := [.int .i32 mu, .int .u32 0, .bool r.begun, .int .i64 r.clock, .int .i64 r.last, .slice a r.sets.length cp]
abbrev rgR (s : Rg) : Res := .blk s.b (rgV s) 67
abbrev rgM (s : Rg) : Res := .ex s.mb (mapQ Tryd.prog 9 3 0 (mapD []))
def setsR : List Rg → List Res → List Res
  | [], H => H
  | s :: r, H => rgR s :: rgM s :: setsR r H
abbrev ptV (s : Rg) : Value := .pointer (some ⟨s.b, 0, none⟩)
abbrev rowP (a : Option Addr) (cp : Nat) (l : List Rg) : Res := .row a cp 64 1 l.length (l.map ptV)
/-- A ring's whole memory. -/
abbrev rnR (p : Nat) (mu : Int) (r : Rn) (a : Option Addr) (cp : Nat) (H : List Res) : List Res := .blk p (rnV mu r a cp) 58 :: rowP a cp r.sets :: setsR r.sets H
theorem mem_sets {s : Rg} : ∀ {l : List Rg} {H : List Res}, s ∈ l → rgR s ∈ setsR l H
  | _ :: _, _, .head _ => List.mem_cons_self ..
  | _ :: _, _, .tail _ h => List.mem_cons_of_mem _ (List.mem_cons_of_mem _ (mem_sets h))
section
variable {F : World} {M : List Nat} {H : List Res} {p b : Nat} {r : Rn} {a : Option Addr} {cp : Nat} {mu now : Int} {s : Rg}
theorem ringNew_spec : Meets Tryd.prog 11 [] F M H (fun e H' => ∃ p, e = .returned (.pointer (some ⟨p, 0, none⟩)) ∧ H' = rnR p 0 ⟨false, 0, 0, []⟩ none 0 H) := by
  refine Meets.enter Tryd.func11 rfl rfl ?_
  refine S.nilrow 64 1 ?_
  repeat' (first | (apply T.asn; apply rfl; apply rfl) | (apply T.buildL; apply rfl; apply rfl; apply rfl) | (apply T.box; apply rfl; apply rfl; intro nb) | with_reducible refine Sr.nil ?_ | with_reducible refine S.seq ?_ | with_reducible refine S.reg ?_ | (apply T.retW; apply rfl) | fail)
  exact ⟨_, PSub.refl _, _, rfl, rfl⟩
theorem ringEnd_spec {g : Int} (h1 : -9223372036854775808 ≤ now ∧ now ≤ 9223372036854775807) (h2 : 0 ≤ g ∧ g ≤ 4294967296) : Meets Tryd.prog 29 [.int .i64 now, .int .i64 g] F M H (fun e H' => e = .returned (.int .i64 (endI now g)) ∧ H' = H) := by
  refine Meets.enter Tryd.func29 rfl rfl ?_
  unfold endI
  by_cases h : 9223372036854775807 - g < now
  · rw [if_pos h]
    repeat' (first | (apply T.mv; apply rfl; apply rfl) | (apply T.asn; apply rfl; apply rfl) | (apply T.gtr; apply rfl; apply rfl; apply rfl) | (apply T.subI; apply rfl; apply rfl; omega; apply rfl) | with_reducible refine Sr.nil ?_ | with_reducible refine S.seq ?_ | with_reducible refine S.reg ?_ | (apply S.condQ; apply rfl; all_goals (intro _; try (exfalso; first | omega | with_reducible contradiction))) | (apply T.retW; apply rfl) | fail)
    exact ⟨_, PSub.refl _, rfl, rfl⟩
  · rw [if_neg h]
    repeat' (first | (apply T.mv; apply rfl; apply rfl) | (apply T.asn; apply rfl; apply rfl) | (apply T.gtr; apply rfl; apply rfl; apply rfl) | (apply T.addI; apply rfl; apply rfl; omega; apply rfl) | (apply T.subI; apply rfl; apply rfl; omega; apply rfl) | with_reducible refine Sr.nil ?_ | with_reducible refine S.seq ?_ | with_reducible refine S.reg ?_ | with_reducible refine S.skip ?_ | (apply S.condQ; apply rfl; all_goals (intro _; try (exfalso; first | omega | with_reducible contradiction))) | (apply T.retW; apply rfl) | fail)
    exact ⟨_, PSub.refl _, rfl, rfl⟩
theorem ringBack_spec [InB H p (rnV mu r a cp) 58] : Meets Tryd.prog 27 [.pointer (some ⟨p, 0, none⟩), .int .i64 now] F M H (fun e H' => e = .returned (.bool (r.back now)) ∧ H' = H) := by
  refine Meets.enter Tryd.func27 rfl rfl ?_
  obtain ⟨bg, ck, la, se⟩ := r
  unfold Rn.back
  cases bg with
  | false =>
    repeat' (first | (apply T.mv; apply rfl; apply rfl) | (apply T.asn; apply rfl; apply rfl) | (apply T.nilCheck; apply rfl; apply rfl) | (apply T.fieldAddrZ; apply rfl; apply rfl) | (apply T.load; apply rfl; apply rfl; infer_instance; apply rfl; apply rfl) | (apply T.pickF; apply rfl; apply rfl; apply rfl) | with_reducible refine Sr.nil ?_ | with_reducible refine S.seq ?_ | with_reducible refine S.reg ?_ | (apply T.retW; apply rfl) | (apply T.skip; apply rfl; apply rfl; apply rfl) | fail)
    exact ⟨_, PSub.refl _, rfl, rfl⟩
  | true =>
    repeat' (first | (apply T.mv; apply rfl; apply rfl) | (apply T.asn; apply rfl; apply rfl) | (apply T.nilCheck; apply rfl; apply rfl) | (apply T.fieldAddrZ; apply rfl; apply rfl) | (apply T.load; apply rfl; apply rfl; infer_instance; apply rfl; apply rfl) | (apply T.lss; apply rfl; apply rfl; apply rfl) | (apply T.pickT; apply rfl; apply rfl; apply rfl) | with_reducible refine Sr.nil ?_ | with_reducible refine S.seq ?_ | with_reducible refine S.reg ?_ | (apply T.ungV; apply rfl; (first | with_reducible rfl | decide)) | (apply T.retW; apply rfl) | fail)
    exact ⟨_, PSub.refl _, rfl, rfl⟩
theorem setLive_spec [InB H s.b (rgV s) 67] : Meets Tryd.prog 31 [.pointer (some ⟨s.b, 0, none⟩), .int .i64 now] F M H (fun e H' => e = .returned (.bool (s.live now)) ∧ H' = H) := by
  refine Meets.enter Tryd.func31 rfl rfl ?_
  obtain ⟨b, mb, v, t, o⟩ := s
  unfold Rg.live
  cases o with
  | false =>
    repeat' (first | (apply T.mv; apply rfl; apply rfl) | (apply T.asn; apply rfl; apply rfl) | (apply T.nilCheck; apply rfl; apply rfl) | (apply T.fieldAddrZ; apply rfl; apply rfl) | (apply T.load; apply rfl; apply rfl; infer_instance; apply rfl; apply rfl) | (apply T.lss; apply rfl; apply rfl; apply rfl) | (apply T.pickF; apply rfl; apply rfl; apply rfl) | with_reducible refine Sr.nil ?_ | with_reducible refine S.seq ?_ | with_reducible refine S.reg ?_ | (apply T.ungV; apply rfl; (first | with_reducible rfl | decide)) | (apply T.retW; apply rfl) | fail)
    exact ⟨_, PSub.refl _, rfl, rfl⟩
  | true =>
    repeat' (first | (apply T.mv; apply rfl; apply rfl) | (apply T.asn; apply rfl; apply rfl) | (apply T.nilCheck; apply rfl; apply rfl) | (apply T.fieldAddrZ; apply rfl; apply rfl) | (apply T.load; apply rfl; apply rfl; infer_instance; apply rfl; apply rfl) | (apply T.pickT; apply rfl; apply rfl; apply rfl) | with_reducible refine Sr.nil ?_ | with_reducible refine S.seq ?_ | with_reducible refine S.reg ?_ | (apply T.retW; apply rfl) | (apply T.skip; apply rfl; apply rfl; apply rfl) | fail)
    exact ⟨_, PSub.refl _, rfl, rfl⟩
end
end Go.Proofs.YtnimcchalinihaaDoor
/- A lock that nobody holds is taken, and given back: for the seat's program. -/
namespace Go.Proofs
abbrev Tryd.muLink : Go.Conc.Locks.MuLink := { lock := 25, unlock := 26, ilock := 41, iunlock := 42, lockSlow := 65, unlockSlow := 68, disable := 61, enable := 63, acquire := 64, relMerge := 66, cas32 := 62, add32 := 67, tMutex := 55, tIMutex := 53, tPMutex := 89, tPIMutex := 116, tPI32 := 118, tUP := 120, tNoCopy := 50, tU32 := 51 }
theorem Tryd.muLib : Go.Conc.Locks.MuLib Tryd.prog Tryd.muLink :=
  ⟨Tryd.func25, Tryd.func26, Tryd.func41, Tryd.func42, Tryd.func61, Tryd.func63, Tryd.func64, Tryd.func66, Tryd.func62, Tryd.func67,
   Tryd.underlying53, Tryd.runUnderlying53, Tryd.sizeOf53, Tryd.isAgg53, Tryd.zeroValue53,
   Tryd.underlying55, Tryd.runUnderlying55, Tryd.sizeOf55, Tryd.isAgg55, Tryd.zeroValue55,
   Tryd.underlying89, Tryd.runUnderlying89, Tryd.sizeOf89, Tryd.isAgg89, Tryd.zeroValue89,
   Tryd.underlying116, Tryd.runUnderlying116, Tryd.sizeOf116, Tryd.isAgg116, Tryd.zeroValue116,
   Tryd.underlying118, Tryd.runUnderlying118, Tryd.sizeOf118, Tryd.isAgg118, Tryd.zeroValue118,
   Tryd.underlying120, Tryd.runUnderlying120, Tryd.sizeOf120, Tryd.isAgg120, Tryd.zeroValue120,
   Tryd.underlying50, Tryd.runUnderlying50, Tryd.sizeOf50, Tryd.isAgg50, Tryd.zeroValue50,
   Tryd.underlying21, Tryd.runUnderlying21, Tryd.sizeOf21, Tryd.isAgg21, Tryd.zeroValue21, (by kernel_rfl)⟩
end Go.Proofs
namespace Go.Proofs.YtnimcchalinihaaDoor
open Sg Go.MuLone
section
variable {F : World} {M : List Nat} {H : List Res} {b : Nat} {vs : List Value} {E : TypeId}
theorem lock_spec (h0 : vs[0]? = some (.int .i32 0)) : Meets Tryd.prog 25 [.pointer (some ⟨b, 0, none⟩)] F M (.blk b vs E :: H) (fun e H' => e = .returned (.tuple ⟨[]⟩) ∧ H' = .blk b (vs.set 0 (.int .i32 1)) E :: H) := fun w hw => by
  have hc := (hw.cell (List.mem_cons_self ..) 0).trans h0
  refine (lock_free Tryd.muLib ⟨b, 0, none⟩ w hc (hw.unfrozen (List.mem_cons_self ..) 0)).mono fun e w' ⟨h1, h2⟩ => ?_
  subst h2
  exact ⟨_, ⟨h1, rfl⟩, hw.setCell 0 _⟩
theorem unlock_late (h0 : vs[0]? = some (.int .i32 1)) : MeetsD Tryd.prog 26 [.pointer (some ⟨b, 0, none⟩)] F M (.blk b vs E :: H) (fun e H' => e = .returned (.tuple ⟨[]⟩) ∧ H' = .blk b (vs.set 0 (.int .i32 0)) E :: H) := fun w u hw => by
  have hc := (hw.cell (List.mem_cons_self ..) 0).trans h0
  refine (unlock_deferred Tryd.muLib ⟨b, 0, none⟩ u w hc (hw.unfrozen (List.mem_cons_self ..) 0)).mono fun e u' w' ⟨h1, h2, h3⟩ => ?_
  subst h3
  exact ⟨h1, _, ⟨h2, rfl⟩, hw.setCell 0 _⟩
end
end Go.Proofs.YtnimcchalinihaaDoor
/- A call that is deferred on a place in a block; for every program. -/
namespace Sg
open Go Go.RowKit
theorem MeetsD.r {P : Program} {g : FuncId} {args : List Value} {F : World} {M : List Nat} {H : List Res} {post : Ending → List Res → Prop} {u : FrameMode} (h : MeetsD P g args F M H post) : MeetsR P g args u u F M H post := fun w hw => h w u hw
section
variable {c : Ctx} {ds : List Deferred} {H : List Res} {k : List Item} {e : Env}
theorem S.defer4 {id d1 d2 d3 p : Nat} {g : FuncId} {x : Operand} {t t1 t2 t3 t4 : TypeId} {p1 p2 p3 p4 : String} {a1 a2 a3 a4 : Array Edge} {ats : Array TypeId} [HFd c.P t 0 0] (hx : ev e x = some (.pointer (some ⟨p, 0, none⟩))) (l1 : Nat.blt d1 c.fn.ntmps = true) (l2 : Nat.blt d2 c.fn.ntmps = true) (l3 : Nat.blt d3 c.fn.ntmps = true)
    (h : S c (⟨.fn (.func g) ⟨[]⟩, ⟨[.pointer (some ⟨p, 0, none⟩)]⟩⟩ :: ds) H k ((d3, .pointer (some ⟨p, 0, none⟩)) :: (d2, .pointer (some ⟨p, 0, none⟩)) :: (d1, .pointer (some ⟨p, 0, none⟩)) :: e)) :
    S c ds H (.code (.region id #[⟨some d1, .move x, t1, p1, a1, none⟩, ⟨some d2, .nilCheck (.tmp d1), t2, p2, a2, none⟩, ⟨some d3, .fieldAddr t (.tmp d2) 0, t3, p3, a3, none⟩, ⟨none, .defer ⟨.value (.func g), #[.tmp d3], ats⟩, t4, p4, a4, none⟩] false) :: k) e := S.ofWp fun w a hw ha hds => by
  refine wp_region_lit (l := [⟨some d1, .move x, t1, p1, a1, none⟩, ⟨some d2, .nilCheck (.tmp d1), t2, p2, a2, none⟩, ⟨some d3, .fieldAddr t (.tmp d2) 0, t3, p3, a3, none⟩, ⟨none, .defer ⟨.value (.func g), #[.tmp d3], ats⟩, t4, p4, a4, none⟩]) (wpList_cons (wanted_none rfl _) ?_)
  have r1 : (execOp a.eval (⟨some d1, .move x, t1, p1, a1, none⟩ : Oper)).run c.P w = .ok (.value (.pointer (some ⟨p, 0, none⟩))) w := by simp [execOp, ha.ev hx]
  simp only [Oper.wp, r1, Oper.upon]
  have ha1 := ha.put (d := some d1) l1 (.pointer (some ⟨p, 0, none⟩))
  refine wpList_cons (wanted_none rfl _) ?_
  have r2 : (execOp (a.put (some d1) (.pointer (some ⟨p, 0, none⟩))).eval (⟨some d2, .nilCheck (.tmp d1), t2, p2, a2, none⟩ : Oper)).run c.P w = .ok (.value (.pointer (some ⟨p, 0, none⟩))) w :=
    Pu.nilCheck (c := c) (H := H) (dst := some d2) (ty := t2) (pos := p2) (aft := a2) (g := none) (x := .tmp d1) (by simp [ev, setd, get?]) w _ hw ha1
  simp only [Oper.wp, r2, Oper.upon]
  have ha2 := ha1.put (d := some d2) l2 (.pointer (some ⟨p, 0, none⟩))
  refine wpList_cons (wanted_none rfl _) ?_
  have r3 : (execOp ((a.put (some d1) (.pointer (some ⟨p, 0, none⟩))).put (some d2) (.pointer (some ⟨p, 0, none⟩))).eval (⟨some d3, .fieldAddr t (.tmp d2) 0, t3, p3, a3, none⟩ : Oper)).run c.P w = .ok (.value (.pointer (some ⟨p, 0, none⟩))) w :=
    Pu.fieldAddr (c := c) (H := H) (dst := some d3) (ty := t3) (pos := p3) (aft := a3) (g := none) (x := .tmp d2) (b := p) (off := 0) (fo := 0) (by simp [ev, setd, get?]) w _ hw ha2
  simp only [Oper.wp, r3, Oper.upon]
  have ha3 := ha2.put (d := some d3) l3 (.pointer (some ⟨p, 0, none⟩))
  refine wpList_cons (wanted_none rfl _) ?_
  have h1 := ha3.ev (x := .tmp d3) (v := .pointer (some ⟨p, 0, none⟩)) (by simp [ev, setd, get?])
  have h2 := ha3.ev (x := .func g) (v := .func (.func g) #[] #[]) rfl
  have hm : Array.map (((a.put (some d1) (.pointer (some ⟨p, 0, none⟩))).put (some d2) (.pointer (some ⟨p, 0, none⟩))).put (some d3) (.pointer (some ⟨p, 0, none⟩))).eval #[.tmp d3] = ⟨[.pointer (some ⟨p, 0, none⟩)]⟩ := by simp [h1]
  simp only [Oper.wp, execOp, resolve, h2, hm, Deferred.ofValue]
  simp only [Oper.upon, Act.put, pure_bind, Sem.run_pure]
  unfold S at h
  exact h w _ hw ⟨ha3.size, ha3.get⟩ (by simp [hds])
end
end Sg
/- The walk of the ring's Versions. -/
namespace Sg
/-- The versions that hold at a clock. -/
def Rn.vers (r : Rn) (now : Int) : List Int := (r.sets.filter (·.live (if r.back now then r.clock else now))).map (·.ver)
end Sg
namespace Go.Proofs.YtnimcchalinihaaDoor
open Sg Go.IntWalk
set_option maxRecDepth 100000
set_option maxHeartbeats 4000000
section
variable {F : World} {M : List Nat} {H : List Res} {p b : Nat} {r : Rn} {a : Option Addr} {cp : Nat} {now : Int}
theorem versions_spec (hl : r.sets.length ≤ 100) : Meets Tryd.prog 13 [.pointer (some ⟨p, 0, none⟩), .int .i64 now] F M (rnR p 0 r a cp H)
    (fun e H' => ∃ va vc, e = .returned (.slice va (r.vers now).length vc) ∧ H' = .row va vc 2 1 (r.vers now).length ((r.vers now).map (.int .i64)) :: rnR p 0 r a cp H) := by
  refine Meets.enter Tryd.func13 rfl rfl ?_
  unfold Rn.vers
  obtain ⟨bg, ck, la, se⟩ := r
  dsimp only at hl ⊢
  obtain ⟨nw, hnw⟩ : ∃ nw, nw = if Rn.back ⟨bg, ck, la, se⟩ now = true then ck else now := ⟨_, rfl⟩
  rw [← hnw]
  repeat' (first | (apply T.mv; apply rfl; apply rfl) | (apply T.asn; apply rfl; apply rfl) | (apply T.nilCheck; apply rfl; apply rfl) | (apply T.fieldAddrZ; apply rfl; apply rfl) | with_reducible refine Sr.nil ?_ | with_reducible refine S.seq ?_ | with_reducible refine S.reg ?_ | fail)
  refine T.call rfl rfl (lock_spec rfl) ?_
  rintro _ _ ⟨rfl, rfl⟩
  dsimp only [List.set_cons_zero]
  repeat' (first | (apply S.defer4; apply rfl; apply rfl; apply rfl; apply rfl) | (apply T.mv; apply rfl; apply rfl) | with_reducible refine Sr.nil ?_ | with_reducible refine S.seq ?_ | with_reducible refine S.reg ?_ | (with_reducible apply T.ofRet) | fail)
  refine T.call rfl rfl (ringBack_spec (r := ⟨bg, ck, la, se⟩) (mu := 1) (a := a) (cp := cp)) ?_
  rintro _ _ ⟨rfl, rfl⟩
  refine Sr.nilrow 2 1 ?_
  cases hb : Rn.back ⟨bg, ck, la, se⟩ now with
  | false =>
    have hn2 : nw = now := by rw [hnw, hb]; simp
    subst hn2
    clear hnw
    repeat' (first | (apply T.mv; apply rfl; apply rfl) | (apply T.asn; apply rfl; apply rfl) | (apply T.len; apply rfl; apply rfl) | (apply T.nilCheck; apply rfl; apply rfl) | (apply T.fieldAddrZ; apply rfl; apply rfl) | (apply T.load; apply rfl; apply rfl; infer_instance; apply rfl; apply rfl) | with_reducible refine Sr.nil ?_ | with_reducible refine S.seq ?_ | with_reducible refine S.block ?_ | with_reducible refine S.reg ?_ | with_reducible refine S.skip ?_ | (apply S.condFV; apply rfl; (first | with_reducible rfl | decide)) | fail)
    refine S.loopE 1 [1, 25, 26] (fun R b' μ H' e => ∃ (i : Nat) (va : Option Addr) (vc : Nat) (L : List Int), H' = .row va vc 2 1 L.length (L.map (.int .i64)) :: R ∧ e = (5, .slice va L.length vc) :: (27, .int .i64 i) :: b' ∧ (i ≤ se.length ∧ L = ((se.take i).filter (·.live nw)).map (·.ver)) ∧ μ = se.length - i) rfl rfl ?_ _ _ ⟨0, none, 0, [], rfl, rfl, ⟨Nat.zero_le _, rfl⟩, rfl⟩ (by repeat' first | exact trivial | refine And.intro rfl ?_)
    rintro _ _ _ ⟨i, va, vc, L, rfl, rfl, ⟨c1, c2⟩, rfl⟩ ih
    have hLl : L.length ≤ se.length := by
      rw [c2, List.length_map]
      exact Nat.le_trans (List.length_filter_le ..) (List.length_take_le' ..)
    by_cases c3 : i < se.length
    · obtain ⟨s, hs⟩ : ∃ s, s = se[i] := ⟨_, rfl⟩
      have hg : (se.map ptV)[i]? = some (ptV s) := by rw [List.getElem?_map, List.getElem?_eq_getElem c3, hs]; rfl
      have hml : (se.map ptV).length = se.length := List.length_map ..
      have htk : se.take (i + 1) = se.take i ++ [s] := by rw [List.take_succ_eq_append_getElem c3, hs]
      have hm : s ∈ se := by rw [hs]; exact List.getElem_mem c3
      haveI hI : InB (setsR se H) s.b (rgV s) 67 := ⟨mem_sets hm⟩
      repeat' (first | (apply T.loadE; apply rfl; apply rfl; infer_instance; exact hg; apply rfl) | (apply T.mv; apply rfl; apply rfl) | (apply T.asn; apply rfl; apply rfl) | (apply T.lss; apply rfl; apply rfl; apply rfl) | (apply T.ixN; apply rfl; apply rfl; infer_instance; omega; (first | omega | (simp only [List.length_map]; omega) | (simp; omega)); apply rfl) | with_reducible refine Sr.nil ?_ | with_reducible refine S.seq ?_ | with_reducible refine S.block ?_ | with_reducible refine S.reg ?_ | with_reducible refine S.skip ?_ | (apply S.condQ; apply rfl; all_goals (intro _; try (exfalso; first | omega | with_reducible contradiction))) | fail)
      refine T.call rfl rfl (setLive_spec (s := s)) ?_
      rintro _ _ ⟨rfl, hH⟩
      have hH2 := hH.symm
      subst hH2
      cases hv : s.live nw with
      | false =>
        repeat' (first | (apply T.mv; apply rfl; apply rfl) | (apply T.addI; apply rfl; apply rfl; omega; apply rfl) | with_reducible refine Sr.nil ?_ | with_reducible refine S.reg ?_ | with_reducible refine S.skip ?_ | with_reducible refine S.inBlock ?_ | (apply S.condFV; apply rfl; (first | with_reducible rfl | decide)) | (with_reducible apply T.ofRet) | fail)
        exact ih _ _ _ _ ⟨i + 1, va, vc, L, rfl, rfl, ⟨c3, by rw [htk, List.filter_append, c2]; simp [hv]⟩, rfl⟩ (by omega) (by repeat' first | exact trivial | refine And.intro rfl ?_)
      | true =>
        have hla : (L ++ [s.ver]).length = L.length + 1 := List.length_append
        repeat' (first | (apply Sr.same; refine T.appendL (g := Value.int .i64) (us := [s.ver]) rfl rfl inferInstance rfl (fun _ => rfl) rfl (by constructor <;> omega) rfl ?_; intro na nc) | (apply T.mv; apply rfl; apply rfl) | (apply T.asn; apply rfl; apply rfl) | (apply T.nilCheck; apply rfl; apply rfl) | (apply T.fieldAddrZ; apply rfl; apply rfl) | (apply T.load; apply rfl; apply rfl; infer_instance; apply rfl; apply rfl) | (apply T.addI; apply rfl; apply rfl; omega; apply rfl) | (apply T.bs; apply rfl; apply rfl; apply rfl; apply rfl; apply rfl; apply rfl; intro nb) | with_reducible refine Sr.nil ?_ | with_reducible refine S.reg ?_ | with_reducible refine S.inBlock ?_ | (apply S.condTV; apply rfl; (first | with_reducible rfl | decide)) | (with_reducible apply T.ofRet) | fail)
        rw [← hla]
        exact ih _ _ _ _ ⟨i + 1, na, nc, L ++ [s.ver], rfl, rfl, ⟨c3, by rw [htk, List.filter_append, c2]; simp [hv]⟩, rfl⟩ (by omega) (by repeat' first | exact trivial | refine And.intro rfl ?_)
    · obtain rfl : i = se.length := by omega
      rw [List.take_length] at c2
      rw [← c2]
      repeat' (first | (apply T.mv; apply rfl; apply rfl) | (apply T.asn; apply rfl; apply rfl) | (apply T.lss; apply rfl; apply rfl; apply rfl) | with_reducible refine Sr.nil ?_ | with_reducible refine S.seq ?_ | with_reducible refine S.reg ?_ | (apply S.exit; apply rfl) | (apply S.condQ; apply rfl; all_goals (intro _; try (exfalso; first | omega | with_reducible contradiction))) | fail)
      refine S.front p ?_
      refine T.retDr (rs := [.tmp 4]) rfl rfl rfl (unlock_late rfl).r ?_
      rintro _ _ ⟨rfl, rfl⟩
      exact ⟨⟨_, rfl⟩, _, .tmp rfl .nil, _, fun _ h => h.psub (PSub.take (pick_tl pick_hd) (PSub.refl _)), va, vc, rfl, rfl⟩
  | true =>
    have hn2 : nw = ck := by rw [hnw, hb]; simp
    subst hn2
    clear hnw
    repeat' (first | (apply T.mv; apply rfl; apply rfl) | (apply T.asn; apply rfl; apply rfl) | (apply T.len; apply rfl; apply rfl) | (apply T.nilCheck; apply rfl; apply rfl) | (apply T.fieldAddrZ; apply rfl; apply rfl) | (apply T.load; apply rfl; apply rfl; infer_instance; apply rfl; apply rfl) | with_reducible refine Sr.nil ?_ | with_reducible refine S.seq ?_ | with_reducible refine S.block ?_ | with_reducible refine S.reg ?_ | (apply S.condTV; apply rfl; (first | with_reducible rfl | decide)) | fail)
    refine S.loopE 1 [1, 25, 26] (fun R b' μ H' e => ∃ (i : Nat) (va : Option Addr) (vc : Nat) (L : List Int), H' = .row va vc 2 1 L.length (L.map (.int .i64)) :: R ∧ e = (5, .slice va L.length vc) :: (27, .int .i64 i) :: b' ∧ (i ≤ se.length ∧ L = ((se.take i).filter (·.live nw)).map (·.ver)) ∧ μ = se.length - i) rfl rfl ?_ _ _ ⟨0, none, 0, [], rfl, rfl, ⟨Nat.zero_le _, rfl⟩, rfl⟩ (by repeat' first | exact trivial | refine And.intro rfl ?_)
    rintro _ _ _ ⟨i, va, vc, L, rfl, rfl, ⟨c1, c2⟩, rfl⟩ ih
    have hLl : L.length ≤ se.length := by
      rw [c2, List.length_map]
      exact Nat.le_trans (List.length_filter_le ..) (List.length_take_le' ..)
    by_cases c3 : i < se.length
    · obtain ⟨s, hs⟩ : ∃ s, s = se[i] := ⟨_, rfl⟩
      have hg : (se.map ptV)[i]? = some (ptV s) := by rw [List.getElem?_map, List.getElem?_eq_getElem c3, hs]; rfl
      have hml : (se.map ptV).length = se.length := List.length_map ..
      have htk : se.take (i + 1) = se.take i ++ [s] := by rw [List.take_succ_eq_append_getElem c3, hs]
      have hm : s ∈ se := by rw [hs]; exact List.getElem_mem c3
      haveI hI : InB (setsR se H) s.b (rgV s) 67 := ⟨mem_sets hm⟩
      repeat' (first | (apply T.loadE; apply rfl; apply rfl; infer_instance; exact hg; apply rfl) | (apply T.mv; apply rfl; apply rfl) | (apply T.asn; apply rfl; apply rfl) | (apply T.lss; apply rfl; apply rfl; apply rfl) | (apply T.ixN; apply rfl; apply rfl; infer_instance; omega; (first | omega | (simp only [List.length_map]; omega) | (simp; omega)); apply rfl) | with_reducible refine Sr.nil ?_ | with_reducible refine S.seq ?_ | with_reducible refine S.block ?_ | with_reducible refine S.reg ?_ | with_reducible refine S.skip ?_ | (apply S.condQ; apply rfl; all_goals (intro _; try (exfalso; first | omega | with_reducible contradiction))) | fail)
      refine T.call rfl rfl (setLive_spec (s := s)) ?_
      rintro _ _ ⟨rfl, hH⟩
      have hH2 := hH.symm
      subst hH2
      cases hv : s.live nw with
      | false =>
        repeat' (first | (apply T.mv; apply rfl; apply rfl) | (apply T.addI; apply rfl; apply rfl; omega; apply rfl) | with_reducible refine Sr.nil ?_ | with_reducible refine S.reg ?_ | with_reducible refine S.skip ?_ | with_reducible refine S.inBlock ?_ | (apply S.condFV; apply rfl; (first | with_reducible rfl | decide)) | (with_reducible apply T.ofRet) | fail)
        exact ih _ _ _ _ ⟨i + 1, va, vc, L, rfl, rfl, ⟨c3, by rw [htk, List.filter_append, c2]; simp [hv]⟩, rfl⟩ (by omega) (by repeat' first | exact trivial | refine And.intro rfl ?_)
      | true =>
        have hla : (L ++ [s.ver]).length = L.length + 1 := List.length_append
        repeat' (first | (apply Sr.same; refine T.appendL (g := Value.int .i64) (us := [s.ver]) rfl rfl inferInstance rfl (fun _ => rfl) rfl (by constructor <;> omega) rfl ?_; intro na nc) | (apply T.mv; apply rfl; apply rfl) | (apply T.asn; apply rfl; apply rfl) | (apply T.nilCheck; apply rfl; apply rfl) | (apply T.fieldAddrZ; apply rfl; apply rfl) | (apply T.load; apply rfl; apply rfl; infer_instance; apply rfl; apply rfl) | (apply T.addI; apply rfl; apply rfl; omega; apply rfl) | (apply T.bs; apply rfl; apply rfl; apply rfl; apply rfl; apply rfl; apply rfl; intro nb) | with_reducible refine Sr.nil ?_ | with_reducible refine S.reg ?_ | with_reducible refine S.inBlock ?_ | (apply S.condTV; apply rfl; (first | with_reducible rfl | decide)) | (with_reducible apply T.ofRet) | fail)
        rw [← hla]
        exact ih _ _ _ _ ⟨i + 1, na, nc, L ++ [s.ver], rfl, rfl, ⟨c3, by rw [htk, List.filter_append, c2]; simp [hv]⟩, rfl⟩ (by omega) (by repeat' first | exact trivial | refine And.intro rfl ?_)
    · obtain rfl : i = se.length := by omega
      rw [List.take_length] at c2
      rw [← c2]
      repeat' (first | (apply T.mv; apply rfl; apply rfl) | (apply T.asn; apply rfl; apply rfl) | (apply T.lss; apply rfl; apply rfl; apply rfl) | with_reducible refine Sr.nil ?_ | with_reducible refine S.seq ?_ | with_reducible refine S.reg ?_ | (apply S.exit; apply rfl) | (apply S.condQ; apply rfl; all_goals (intro _; try (exfalso; first | omega | with_reducible contradiction))) | fail)
      refine S.front p ?_
      refine T.retDr (rs := [.tmp 4]) rfl rfl rfl (unlock_late rfl).r ?_
      rintro _ _ ⟨rfl, rfl⟩
      exact ⟨⟨_, rfl⟩, _, .tmp rfl .nil, _, fun _ h => h.psub (PSub.take (pick_tl pick_hd) (PSub.refl _)), va, vc, rfl, rfl⟩
end
end Go.Proofs.YtnimcchalinihaaDoor
/- A row's end written with nothing (clear), a row shortened; for every program. -/
namespace Sg
open Go Go.RowKit
/-- Values from a place on. -/
def setL : List Value → Nat → List Value → List Value
  | xs, _, [] => xs
  | xs, o, v :: r => setL (xs.set o v) (o + 1) r
theorem setL_len : ∀ (vs : List Value) (xs : List Value) (o : Nat), (setL xs o vs).length = xs.length
  | [], _, _ => rfl
  | v :: r, xs, o => by rw [setL, setL_len r, List.length_set]
theorem setL_app : ∀ (vs : List Value) (xs : List Value) (o : Nat), o + vs.length ≤ xs.length → (setL xs o vs).take (o + vs.length) = xs.take o ++ vs
  | [], xs, o, _ => by rw [setL, List.length_nil, Nat.add_zero, List.append_nil]
  | v :: r, xs, o, h => by
    rw [List.length_cons] at h
    have ih := setL_app r (xs.set o v) (o + 1) (by rw [List.length_set]; omega)
    rw [setL, List.length_cons, show o + (r.length + 1) = o + 1 + r.length by omega, ih, List.take_succ_eq_append_getElem (by rw [List.length_set]; omega), List.take_set_of_le (Nat.le_refl _), List.append_assoc]
    simp
theorem setL_take : ∀ (vs : List Value) (xs : List Value) (o k : Nat), k ≤ o → (setL xs o vs).take k = xs.take k
  | [], _, _, _, _ => rfl
  | v :: r, xs, o, k, h => by
    rw [setL, setL_take r _ _ k (by omega)]
    apply List.ext_getElem?
    intro i
    rcases Nat.lt_or_ge i k with hi | hi
    · rw [List.getElem?_take_of_lt hi, List.getElem?_take_of_lt hi, List.getElem?_set_ne (by omega)]
    · rw [List.getElem?_eq_none (by rw [List.length_take]; omega), List.getElem?_eq_none (by rw [List.length_take]; omega)]
section
variable {F : World} {M : List Nat} {H : List Res} {w : World} {g cp n : Nat} {E : TypeId} {xs : List Value}
theorem St.rowCell (h : St F M w (.row (some ⟨g, 0, none⟩) cp E 1 n xs :: H)) {j : Nat} (hj : j < xs.length) (v : Value) : (w.cell? ⟨g, j, none⟩).isSome = true ∧ w.frozen? ⟨g, j, none⟩ = false ∧ St F M (w.setCell ⟨g, j, none⟩ v) (.row (some ⟨g, 0, none⟩) cp E 1 n (xs.set j v) :: H) := by
  have hrow : w.ownsRow 0 E 1 (.slice (some ⟨g, 0, none⟩) n cp) n xs := h.res _ (List.mem_cons_self ..)
  obtain ⟨⟨u, hu⟩, hfz, hown⟩ := setCell_ownsRow hrow rfl hj v
  rw [addr_add, Nat.zero_add] at hu hfz hown
  exact ⟨by rw [hu]; rfl, hfz, St.turn (w' := w.setCell ⟨g, j, none⟩ v) h (r' := .row (some ⟨g, 0, none⟩) cp E 1 n (xs.set j v)) rfl rfl rfl (by simp) (fun i _ hi' => Below.heap_setCell _ _ _ _ (by simpa [Res.foot] using hi')) hown (fun b hb => .inl hb) (by simp [Res.foot])⟩
theorem St.rowCells : ∀ (vs : List Value) {w : World} {xs : List Value} {o : Nat}, St F M w (.row (some ⟨g, 0, none⟩) cp E 1 n xs :: H) → o + vs.length ≤ xs.length → St F M (w.setCells g o vs) (.row (some ⟨g, 0, none⟩) cp E 1 n (setL xs o vs) :: H)
  | [], _, _, _, h, _ => h
  | v :: r, w, xs, o, h, hl => by
    rw [List.length_cons] at hl
    rw [World.setCells, setL]
    exact St.rowCells r (h.rowCell (j := o) (by omega) v).2.2 (by rw [List.length_set]; omega)
theorem St.rowTo {m : Nat} (hm : m ≤ n) (h : St F M w (.row (some ⟨g, 0, none⟩) cp E 1 n xs :: H)) : St F M w (.row (some ⟨g, 0, none⟩) cp E 1 m (xs.take m) :: H) :=
  h.turn rfl rfl rfl (Nat.le_refl _) (fun _ _ _ => rfl) (by
    obtain ⟨h1, h2⟩ : w.ownsRow 0 E 1 (.slice (some ⟨g, 0, none⟩) n cp) n xs := h.res _ (List.mem_cons_self ..)
    rw [Nat.mul_one] at h1
    refine ⟨by rw [List.length_take]; omega, ?_⟩
    rcases h2 with ⟨h0, _⟩ | ⟨g', cap, cur, hv, hg, hh, hn, hmx, hs, ht⟩
    · cases h0
    · simp only [Value.slice.injEq] at hv
      obtain ⟨e1, _, rfl⟩ := hv
      refine .inr ⟨g', cp, cur, by rw [e1], hg, hh, by omega, hmx, hs, ?_⟩
      have := congrArg (List.take m) ht
      rw [Nat.mul_one, List.take_take, Nat.min_eq_left hm] at this
      rw [Nat.mul_one, this]) (fun b hb => .inl hb) (by simp [Res.foot])
end
section
variable {c : Ctx} {dr : Bool} {ds : List Deferred} {H : List Res} {ops : Array Oper} {l : List Oper} {κ : List Res → Env → Prop} {e : Env} {ty : TypeId} {pos : String} {aft : Array Edge}
/-- The end of a row of simple things is cleared. -/
theorem T.clear {x : Operand} {g o n k cp cp' t E by_ : Nat} {z : Value} {xs : List Value} [HU c.P t (.slice E)] [HI c.P E z 1 by_] (hv : ∀ w, (zeroValue E).run c.P w = .ok z w) (hz : z.cells = #[z]) (h1 : z.oneCell' = true) (hx : ev e x = some (.slice (some ⟨g, o, none⟩) k cp')) (h0 : 0 < k) (hk0 : o + k ≤ xs.length)
    (hk : Sr (.eff dr) c ds (.row (some ⟨g, 0, none⟩) cp E 1 n (setL xs o (List.replicate k z)) :: H) ops l κ e) : Sr (.eff dr) c ds (.row (some ⟨g, 0, none⟩) cp E 1 n xs :: H) ops (⟨none, .call ⟨.builtin .clear, #[x], #[t]⟩, ty, pos, aft, none⟩ :: l) κ e :=
  Sr.eff (K := fun _ H' => H' = .row (some ⟨g, 0, none⟩) cp E 1 n (setL xs o (List.replicate k z)) :: H) (fun w a hw ha => by
    have hrun := Lib.run_clear_slice (P := c.P) w t E ty z (HU.h (P := c.P)) hv hz h1 g o k cp' h0 (fun j hj => (hw.rowCell (j := o + j) (by omega) z).1) (fun j hj => (hw.rowCell (j := o + j) (by omega) z).2.1)
    exact ⟨.tuple #[], w.setCells g o (List.replicate k z), _, .inl (by simp only [execOp, resolve, invoke, builtin]; simp [ha.ev hx, hrun]), hw.rowCells (List.replicate k z) (by rw [List.length_replicate]; exact hk0), rfl⟩) rfl rfl (fun u H' hH => by subst hH; exact hk)
/-- An append to a row's own head, with room, of a part of the same row. -/
theorem T.appendIn {d : Tmp} {x y : Operand} {g i n cp m c' j t E by_ : Nat} {A : Addr} {z : Value} {xs : List Value} [HU c.P t (.slice E)] [HI c.P E z 1 by_] (hx : ev e x = some (.slice (some ⟨g, 0, none⟩) i cp)) (hy : ev e y = some (.slice (some A) m c')) (hA : m = 0 ∨ A = ⟨g, j, none⟩)
    (hj : j + m ≤ xs.length) (hi : i + m ≤ xs.length) (hcp : i + m ≤ cp) (hone : ∀ u ∈ xs, u.oneCell' = true) (hlt : Nat.blt d c.fn.ntmps = true)
    (hk : Sr (.eff dr) c ds (.row (some ⟨g, 0, none⟩) cp E 1 n (setL xs i ((xs.drop j).take m)) :: H) ops l κ ((d, .slice (some ⟨g, 0, none⟩) (i + m) cp) :: e)) :
    Sr (.eff dr) c ds (.row (some ⟨g, 0, none⟩) cp E 1 n xs :: H) ops (⟨some d, .call ⟨.builtin .append, #[x, y], #[t, t]⟩, ty, pos, aft, none⟩ :: l) κ e :=
  Sr.eff (K := fun v H' => v = .slice (some ⟨g, 0, none⟩) (i + m) cp ∧ H' = .row (some ⟨g, 0, none⟩) cp E 1 n (setL xs i ((xs.drop j).take m)) :: H) (fun w a hw ha => by
    obtain ⟨ti, hti, _, hsz, _⟩ := HI.h (P := c.P) (t := E)
    have hown : w.ownsRow 0 E 1 (.slice (some ⟨g, 0, none⟩) n cp) n xs := hw.res _ (List.mem_cons_self ..)
    have hl : ((xs.drop j).take m).length = m := by rw [List.length_take, List.length_drop]; omega
    have hrun := run_append_room_cells (P := c.P) w t ty E ti (HU.h (P := c.P)) hti g 0 i cp A m c' ((xs.drop j).take m) (by rw [hl, hsz, Nat.mul_one]) (fun q u hu => by
      have hq : q < m := by have := (List.getElem?_eq_some_iff.1 hu).1; omega
      rcases hA with h0 | rfl
      · omega
      · rw [addr_add]
        rw [List.getElem?_take_of_lt hq, List.getElem?_drop] at hu
        have := hown.cells (g := g) rfl (j + q) u hu
        simpa [addr_add] using this) (fun u hu => hone u (List.mem_of_mem_drop (List.mem_of_mem_take hu))) hcp
      (fun q hq => by rw [hsz]; simpa using (hw.rowCell (j := i + q) (by omega) z).1) (fun q hq => by rw [hsz]; simpa using (hw.rowCell (j := i + q) (by omega) z).2.1)
    rw [hsz, Nat.mul_one, Nat.zero_add] at hrun
    exact ⟨_, _, _, .inl (by simp only [execOp, resolve, invoke, builtin]; simp [ha.ev hx, ha.ev hy, hrun]), hw.rowCells ((xs.drop j).take m) (by rw [hl]; exact hi), rfl, rfl⟩) hlt rfl (fun v H' ⟨h2, h3⟩ => by subst h2 h3; exact hk)
theorem T.slice3 {q : Mode} {d : Tmp} {x lo hi mx : Operand} {ad : Option Addr} {n cp i j k : Nat} {kd kd' kd'' : IntKind} {t E : TypeId} {z : Value} {sz by_ : Nat} [HU c.P t (.slice E)] [HI c.P E z sz by_] (hx : ev e x = some (.slice ad n cp)) (hl : ev e lo = some (.int kd (i : Int))) (hh : ev e hi = some (.int kd' (j : Int))) (hm : ev e mx = some (.int kd'' (k : Int)))
    (h0 : i ≤ j ∧ j ≤ k ∧ k ≤ cp) (hlt : Nat.blt d c.fn.ntmps = true) (hk : Sr q c ds H ops l κ ((d, .slice (saddr ad k i sz) (j - i) (k - i)) :: e)) : Sr q c ds H ops (⟨some d, .slice t x (some lo) (some hi) (some mx), ty, pos, aft, none⟩ :: l) κ e :=
  Sr.p (fun w a hw ha => by
    have h1 : (0 : Int) ≤ (k : Int) ∧ (k : Int) ≤ cp := by omega
    have h2 : (0 : Int) ≤ (j : Int) ∧ (j : Int) ≤ (k : Int) := by omega
    have h3 : (0 : Int) ≤ (i : Int) ∧ (i : Int) ≤ (j : Int) := by omega
    simp [execOp, ha.ev hx, ha.ev hl, ha.ev hh, ha.ev hm, Instr.sliceAt, Instr.slice, Instr.sliceBounds, run_under (d := .slice E), run_size (z := z) (sz := sz) (b := by_), run_sliceBound h1, run_sliceBound h2, run_sliceBound h3, saddr]) rfl hlt rfl hk
end
end Sg
/- The walk of the library's DeleteFunc, as the ring calls it: the sets that have ended are let go. -/
namespace Go.Proofs.YtnimcchalinihaaDoor
open Sg Go.IntWalk
set_option maxRecDepth 100000
set_option maxHeartbeats 4000000
section
open Go.RowKit
theorem Sr.rowSome {c : Ctx} {dr : Bool} {ds : List Deferred} {H : List Res} {ops : Array Oper} {l : List Oper} {κ : List Res → Env → Prop} {e : Env} {a : Option Addr} {cp n sz : Nat} {E : TypeId} {xs : List Value} (hn : n ≠ 0) (h : ∀ g, a = some ⟨g, 0, none⟩ → Sr (.eff dr) c ds (.row a cp E sz n xs :: H) ops l κ e) : Sr (.eff dr) c ds (.row a cp E sz n xs :: H) ops l κ e := by
  cases a with
  | none =>
    refine Sr.weaken (H' := .row none cp E sz n xs :: H) ?_ (fun w hw => hw)
    unfold Sr Sx at *
    intro w ac hw
    obtain ⟨_, h2⟩ : w.ownsRow 0 E sz (.slice none n cp) n xs := hw.res _ (List.mem_cons_self ..)
    rcases h2 with ⟨_, h0⟩ | ⟨g, cap, cur, hv, _⟩
    · exact absurd h0 hn
    · cases hv
  | some ad =>
    unfold Sr Sx at h ⊢
    intro w ac hw ha hd
    obtain ⟨_, h2⟩ : w.ownsRow 0 E sz (.slice (some ad) n cp) n xs := hw.res _ (List.mem_cons_self ..)
    rcases h2 with ⟨_, h0⟩ | ⟨g, cap, cur, hv, _⟩
    · exact absurd h0 hn
    · simp only [Value.slice.injEq] at hv
      exact h g hv.1 w ac hw ha hd
variable {F : World} {M : List Nat} {H : List Res} {q : Nat} {a : Option Addr} {cp n : Nat} {now : Int} {s : Rg} {l : List Rg}
/-- The closure: has a set ended? -/
theorem clo_spec [InB H q [.int .i64 now] 2] [InB H s.b (rgV s) 67] : Meets Tryd.prog 48 [.pointer (some ⟨s.b, 0, none⟩), .pointer (some ⟨q, 0, none⟩)] F M H (fun e H' => e = .returned (.bool (!s.live now)) ∧ H' = H) := by
  refine Meets.enter Tryd.func48 rfl rfl ?_
  repeat' (first | (apply T.mv; apply rfl; apply rfl) | (apply T.asn; apply rfl; apply rfl) | (apply T.load; apply rfl; apply rfl; infer_instance; apply rfl; apply rfl) | with_reducible refine Sr.nil ?_ | with_reducible refine S.seq ?_ | with_reducible refine S.reg ?_ | fail)
  refine T.call rfl rfl (setLive_spec (s := s)) ?_
  rintro _ _ ⟨rfl, rfl⟩
  repeat' (first | (apply T.asn; apply rfl; apply rfl) | (apply T.notB; apply rfl; apply rfl) | with_reducible refine Sr.nil ?_ | (apply T.retW; apply rfl) | (with_reducible apply T.ofRet) | fail)
  exact ⟨_, PSub.refl _, rfl, rfl⟩
/-- The place of the first set that has ended. -/
def endX (now : Int) : List Rg → Nat → Int
  | [], _ => -1
  | s :: l, i => if s.live now then endX now l (i + 1) else (i : Int)
abbrev cloV (q : Nat) : Value := .func (.func 48) #[] ⟨[.pointer (some ⟨q, 0, none⟩)]⟩
theorem indexFunc_spec [InB H q [.int .i64 now] 2] (hR : Rd F M H a (l.map ptV)) (hin : ∀ s ∈ l, rgR s ∈ H) (hn : l.length = n) (hl : n ≤ 100) :
    Meets Tryd.prog 76 [.slice a n cp, cloV q] F M H (fun e H' => e = .returned (.int .i64 (endX now l 0)) ∧ H' = H) := by
  subst hn
  refine Meets.enter Tryd.func76 rfl rfl ?_
  generalize hQ : endX now l 0 = Q
  have hml : (l.map ptV).length = l.length := List.length_map ..
  repeat' (first | (apply T.mv; apply rfl; apply rfl) | (apply T.asn; apply rfl; apply rfl) | (apply T.len; apply rfl; apply rfl) | with_reducible refine Sr.nil ?_ | with_reducible refine S.seq ?_ | with_reducible refine S.block ?_ | with_reducible refine S.reg ?_ | fail)
  refine S.loopE 0 [0, 1, 7] (fun R b' μ H' e => ∃ i : Nat, H' = H ∧ e = (8, .int .i64 i) :: b' ∧ (i ≤ l.length ∧ endX now (l.drop i) i = Q) ∧ μ = l.length - i) rfl rfl ?_ _ _ ⟨0, rfl, rfl, ⟨Nat.zero_le _, hQ⟩, rfl⟩ (by repeat' first | exact trivial | refine And.intro rfl ?_)
  rintro _ _ _ ⟨i, rfl, rfl, ⟨c1, c2⟩, rfl⟩ ih
  by_cases c3 : i < l.length
  · obtain ⟨s, hs⟩ : ∃ s, s = l[i] := ⟨_, rfl⟩
    have hg : (l.map ptV)[i]? = some (ptV s) := by rw [List.getElem?_map, List.getElem?_eq_getElem c3, hs]; rfl
    rw [List.drop_eq_getElem_cons c3, ← hs, endX] at c2
    haveI hI : InB _ s.b (rgV s) 67 := ⟨hin s (by rw [hs]; exact List.getElem_mem c3)⟩
    repeat' (first | (apply T.loadE; apply rfl; apply rfl; infer_instance; exact hg; apply rfl) | (apply T.mv; apply rfl; apply rfl) | (apply T.asn; apply rfl; apply rfl) | (apply T.lss; apply rfl; apply rfl; apply rfl) | (apply T.ixN; apply rfl; apply rfl; infer_instance; omega; (first | omega | (simp only [List.length_map]; omega) | (simp; omega)); apply rfl) | with_reducible refine Sr.nil ?_ | with_reducible refine S.seq ?_ | with_reducible refine S.block ?_ | with_reducible refine S.reg ?_ | with_reducible refine S.skip ?_ | (apply S.condQ; apply rfl; all_goals (intro _; try (exfalso; first | omega | with_reducible contradiction))) | fail)
    refine Sr.callv (first := []) (cap := [.pointer (some ⟨q, 0, none⟩)]) (vs := [ptV s]) rfl rfl rfl (clo_spec (s := s) (now := now)) ?_
    rintro _ _ ⟨rfl, hH⟩
    have hH2 := hH.symm
    subst hH2
    cases hv : s.live now with
    | true =>
      rw [hv] at c2
      repeat' (first | (apply T.mv; apply rfl; apply rfl) | (apply T.addI; apply rfl; apply rfl; omega; apply rfl) | with_reducible refine Sr.nil ?_ | with_reducible refine S.reg ?_ | with_reducible refine S.skip ?_ | with_reducible refine S.inBlock ?_ | (apply S.condFV; apply rfl; (first | with_reducible rfl | decide)) | (with_reducible apply T.ofRet) | fail)
      exact ih _ _ _ _ ⟨i + 1, rfl, rfl, ⟨c3, c2⟩, rfl⟩ (by omega) (by repeat' first | exact trivial | refine And.intro rfl ?_)
    | false =>
      rw [hv] at c2
      have c4 : Q = (i : Int) := c2.symm
      subst c4
      repeat' (first | (apply T.mv; apply rfl; apply rfl) | (apply T.asn; apply rfl; apply rfl) | with_reducible refine Sr.nil ?_ | with_reducible refine S.seq ?_ | with_reducible refine S.reg ?_ | (apply S.condTV; apply rfl; (first | with_reducible rfl | decide)) | (apply T.retW; apply rfl) | (with_reducible apply T.ofRet) | fail)
      exact ⟨_, PSub.refl _, rfl, rfl⟩
  · obtain rfl : i = l.length := by omega
    rw [List.drop_length] at c2
    have c4 : Q = -1 := c2.symm
    subst c4
    repeat' (first | (apply T.asn; apply rfl; apply rfl) | (apply T.lss; apply rfl; apply rfl; apply rfl) | with_reducible refine Sr.nil ?_ | with_reducible refine S.seq ?_ | with_reducible refine S.reg ?_ | (apply S.exit; apply rfl) | (apply S.condQ; apply rfl; all_goals (intro _; try (exfalso; first | omega | with_reducible contradiction))) | (apply T.retW; apply rfl) | fail)
    exact ⟨_, PSub.refl _, rfl, rfl⟩
theorem endX_says (now : Int) : ∀ (l : List Rg) (i : Nat), (endX now l i = -1 ∧ l.filter (·.live now) = l) ∨ ∃ k, k < l.length ∧ endX now l i = ((i + k : Nat) : Int) ∧ (l.take (k + 1)).filter (·.live now) = l.take k
  | [], _ => .inl ⟨rfl, rfl⟩
  | s :: l, i => by
    rw [endX]
    cases hv : s.live now with
    | true =>
      rcases endX_says now l (i + 1) with ⟨h1, h2⟩ | ⟨k, h1, h2, h3⟩
      · exact .inl ⟨h1, by rw [List.filter_cons_of_pos (by simpa using hv), h2]⟩
      · refine .inr ⟨k + 1, by simpa using h1, by simp only [if_true]; rw [h2]; congr 1; omega, ?_⟩
        rw [List.take_succ_cons, List.filter_cons_of_pos (by simpa using hv), h3, List.take_succ_cons]
    | false => exact .inr ⟨0, by simp, rfl, by simp [hv]⟩
theorem zeroP : ∀ w, (zeroValue 64).run Tryd.prog w = .ok (.pointer none) w := Tryd.zeroValue64
theorem deleteFunc_spec [InB H q [.int .i64 now] 2] (hin : ∀ s ∈ l, rgR s ∈ H) (hl : l.length ≤ 100) :
    Meets Tryd.prog 47 [.slice a l.length cp, cloV q] F M (rowP a cp l :: H) (fun e H' => e = .returned (.slice a (l.filter (·.live now)).length cp) ∧ H' = rowP a cp (l.filter (·.live now)) :: H) := by
  refine Meets.enter Tryd.func47 rfl rfl ?_
  refine S.capR (ad := a) inferInstance fun hcap => ?_
  repeat' (first | (apply T.mv; apply rfl; apply rfl) | (apply T.asn; apply rfl; apply rfl) | with_reducible refine Sr.nil ?_ | with_reducible refine S.seq ?_ | with_reducible refine S.reg ?_ | fail)
  refine T.call rfl rfl (indexFunc_spec (l := l) (now := now) (H := rowP a cp l :: H) inferInstance (fun s hs => List.mem_cons_of_mem _ (hin s hs)) rfl hl) ?_
  rintro _ _ ⟨rfl, hH⟩
  have hH2 := hH.symm
  subst hH2
  rcases endX_says now l 0 with ⟨h1, h2⟩ | ⟨k, h1, h2, h3⟩
  · rw [h1, h2]
    repeat' (first | (apply T.mv; apply rfl; apply rfl) | (apply T.asn; apply rfl; apply rfl) | (apply T.eql; apply rfl; apply rfl; apply rfl) | with_reducible refine Sr.nil ?_ | with_reducible refine S.seq ?_ | with_reducible refine S.reg ?_ | (apply S.condTV; apply rfl; (first | with_reducible rfl | decide)) | (apply T.retW; apply rfl) | (with_reducible apply T.ofRet) | fail)
    exact ⟨_, PSub.refl _, rfl, rfl⟩
  · rw [h2, Nat.zero_add]
    refine Sr.rowSome (by omega) ?_
    rintro g rfl
    generalize hQ : l.filter (·.live now) = kept
    have hkt : (l.take k).length = k := by rw [List.length_take]; omega
    repeat' (first | (apply T.mv; apply rfl; apply rfl) | (apply T.asn; apply rfl; apply rfl) | (apply T.eql; apply rfl; apply rfl; apply rfl) | (apply T.addI; apply rfl; apply rfl; omega; apply rfl) | with_reducible refine Sr.nil ?_ | with_reducible refine S.seq ?_ | with_reducible refine S.block ?_ | with_reducible refine S.reg ?_ | with_reducible refine S.skip ?_ | (apply S.condQ; apply rfl; all_goals (intro _; try (exfalso; first | omega | with_reducible contradiction))) | fail)
    refine S.loopE 1 [0, 1] (fun R b' μ H' e => ∃ (i j : Nat) (cs : List Value), H' = .row (some ⟨g, 0, none⟩) cp 64 1 l.length cs :: R ∧ e = (5, .int .i64 i) :: (6, .int .i64 j) :: b' ∧
      (j ≤ l.length ∧ i < j ∧ cs.length = l.length ∧ i = ((l.take j).filter (·.live now)).length ∧ cs.take i = ((l.take j).filter (·.live now)).map ptV ∧ cs.drop j = (l.drop j).map ptV) ∧ μ = l.length - j) rfl rfl ?_ _ _ ⟨k, k + 1, l.map ptV, rfl, rfl, ⟨h1, Nat.lt_succ_self _, List.length_map .., by rw [h3, hkt], by rw [h3, List.map_take], by rw [List.map_drop]⟩, rfl⟩ (by repeat' first | exact trivial | refine And.intro rfl ?_)
    rintro _ _ _ ⟨i, j, cs, rfl, rfl, ⟨c1, c2, c3, c4, c5, c6⟩, rfl⟩ ih
    by_cases c7 : j < l.length
    · obtain ⟨s, hs⟩ : ∃ s, s = l[j] := ⟨_, rfl⟩
      have hd : l.drop j = s :: l.drop (j + 1) := by rw [List.drop_eq_getElem_cons c7, hs]
      have htk : l.take (j + 1) = l.take j ++ [s] := by rw [List.take_succ_eq_append_getElem c7, hs]
      have hg : cs[j]? = some (ptV s) := by
        have := congrArg (fun z => z[0]?) c6
        rw [hd] at this
        simpa [List.getElem?_drop] using this
      have hd2 : cs.drop (j + 1) = (l.drop (j + 1)).map ptV := by
        have := congrArg (List.drop 1) c6
        rw [hd, List.map_cons, List.drop_drop] at this
        simpa [Nat.add_comm] using this
      haveI hI : InB H s.b (rgV s) 67 := ⟨hin s (by rw [hs]; exact List.getElem_mem c7)⟩
      repeat' (first | (apply T.loadE; apply rfl; apply rfl; infer_instance; exact hg; apply rfl) | (apply T.mv; apply rfl; apply rfl) | (apply T.asn; apply rfl; apply rfl) | (apply T.len; apply rfl; apply rfl) | (apply T.lss; apply rfl; apply rfl; apply rfl) | (apply T.ixN; apply rfl; apply rfl; infer_instance; omega; (first | omega | (simp only [List.length_map]; omega) | (simp; omega)); apply rfl) | with_reducible refine Sr.nil ?_ | with_reducible refine S.seq ?_ | with_reducible refine S.block ?_ | with_reducible refine S.reg ?_ | with_reducible refine S.skip ?_ | (apply S.condQ; apply rfl; all_goals (intro _; try (exfalso; first | omega | with_reducible contradiction))) | fail)
      refine Sr.callv (first := []) (cap := [.pointer (some ⟨q, 0, none⟩)]) (vs := [ptV s]) rfl rfl rfl (clo_spec (s := s) (now := now)) ?_
      rintro _ _ ⟨rfl, hH⟩
      have hH2 := hH.symm
      subst hH2
      cases hv : s.live now with
      | false =>
        repeat' (first | (apply T.mv; apply rfl; apply rfl) | (apply T.asn; apply rfl; apply rfl) | (apply T.addI; apply rfl; apply rfl; omega; apply rfl) | (apply T.notB; apply rfl; apply rfl) | with_reducible refine Sr.nil ?_ | with_reducible refine S.reg ?_ | with_reducible refine S.skip ?_ | with_reducible refine S.inBlock ?_ | (apply S.condFV; apply rfl; (first | with_reducible rfl | decide)) | (with_reducible apply T.ofRet) | fail)
        exact ih _ _ _ _ ⟨i, j + 1, cs, rfl, rfl, ⟨c7, by omega, c3, by rw [htk, List.filter_append]; simp [hv, c4], by rw [htk, List.filter_append, c5]; simp [hv], hd2⟩, rfl⟩ (by omega) (by repeat' first | exact trivial | refine And.intro rfl ?_)
      | true =>
        have hf2 : (l.take (j + 1)).filter (·.live now) = (l.take j).filter (·.live now) ++ [s] := by rw [htk, List.filter_append]; simp [hv]
        have hi2 : i < cs.length := by omega
        have htk2 : (cs.set i (ptV s)).take (i + 1) = cs.take i ++ [ptV s] := by
          rw [List.take_succ_eq_append_getElem (by rw [List.length_set]; omega), List.take_set_of_le (Nat.le_refl _)]
          simp
        have hdr2 : (cs.set i (ptV s)).drop (j + 1) = cs.drop (j + 1) := List.drop_set_of_lt (by omega)
        repeat' (first | (apply T.mv; apply rfl; apply rfl) | (apply T.asn; apply rfl; apply rfl) | (apply T.addI; apply rfl; apply rfl; omega; apply rfl) | (apply T.ixN; apply rfl; apply rfl; infer_instance; omega; (first | omega | (simp only [List.length_map]; omega) | (simp; omega)); apply rfl) | (apply T.notB; apply rfl; apply rfl) | (apply T.storeE; apply rfl; apply rfl; infer_instance; (first | omega | (simp only [List.length_map]; omega) | (simp; omega)); apply rfl) | with_reducible refine Sr.nil ?_ | with_reducible refine S.seq ?_ | with_reducible refine S.reg ?_ | with_reducible refine S.inBlock ?_ | (apply S.condTV; apply rfl; (first | with_reducible rfl | decide)) | (with_reducible apply T.ofRet) | fail)
        exact ih _ _ _ _ ⟨i + 1, j + 1, cs.set i (ptV s), rfl, rfl, ⟨c7, by omega, by rw [List.length_set]; exact c3, by rw [hf2, List.length_append, ← c4]; rfl, by rw [htk2, c5, hf2, List.map_append]; rfl, by rw [hdr2, hd2]⟩, rfl⟩ (by omega) (by repeat' first | exact trivial | refine And.intro rfl ?_)
    · obtain rfl : j = l.length := by omega
      rw [List.take_length, hQ] at c4 c5
      have hsd : saddr (some ⟨g, 0, none⟩) cp i 1 = some ⟨g, i, none⟩ := by
        unfold saddr
        rw [if_neg (by omega)]
        simp [addr_add]
      repeat' (first | (apply T.mv; apply rfl; apply rfl) | (apply T.len; apply rfl; apply rfl) | (apply T.lss; apply rfl; apply rfl; apply rfl) | (apply T.sliceLK; apply rfl; apply rfl; omega; apply rfl) | with_reducible refine Sr.nil ?_ | with_reducible refine S.seq ?_ | with_reducible refine S.reg ?_ | (apply S.exit; apply rfl) | (apply S.condQ; apply rfl; all_goals (intro _; try (exfalso; first | omega | with_reducible contradiction))) | fail)
      rw [hsd]
      refine T.clear (z := .pointer none) zeroP rfl rfl rfl (by omega) (by omega) ?_
      refine Sr.weaken (H' := .row (some ⟨g, 0, none⟩) cp 64 1 i ((setL cs i (List.replicate (l.length - i) (.pointer none))).take i) :: H) ?_ (fun w h => h.rowTo (by omega))
      rw [setL_take _ _ _ _ (Nat.le_refl _), c5]
      subst c4
      repeat' (first | (apply T.mv; apply rfl; apply rfl) | (apply T.asn; apply rfl; apply rfl) | (apply T.sliceHK; apply rfl; apply rfl; omega; apply rfl) | with_reducible refine Sr.nil ?_ | with_reducible refine S.seq ?_ | with_reducible refine S.reg ?_ | (apply T.retW; apply rfl) | fail)
      exact ⟨_, PSub.refl _, rfl, rfl⟩
end
end Go.Proofs.YtnimcchalinihaaDoor
/- The walk of the ring's move. -/
namespace Sg
/-- A ring whose clock has moved on. -/
def Rn.moved (r : Rn) (now : Int) : Rn := { r with begun := true, clock := now, sets := r.sets.filter (·.live now) }
end Sg
namespace Go.Proofs.YtnimcchalinihaaDoor
open Sg Go.IntWalk
set_option maxRecDepth 100000
set_option maxHeartbeats 4000000
section
variable {F : World} {M : List Nat} {H : List Res} {p : Nat} {r : Rn} {a : Option Addr} {cp : Nat} {mu now : Int}
theorem sets_drop (g : Rg → Bool) (H : List Res) : ∀ l : List Rg, PSub (setsR (l.filter g) H) (setsR l H)
  | [] => PSub.refl _
  | s :: l => by
    cases hg : g s with
    | true =>
      rw [List.filter_cons_of_pos (by simpa using hg)]
      exact PSub.take pick_hd (PSub.take pick_hd (sets_drop g H l))
    | false =>
      rw [List.filter_cons_of_neg (by simpa using hg)]
      exact PSub.drop (PSub.drop (sets_drop g H l))
theorem move_spec (hl : r.sets.length ≤ 100) : Meets Tryd.prog 30 [.pointer (some ⟨p, 0, none⟩), .int .i64 now] F M (rnR p mu r a cp H) (fun e H' => e = .returned (.tuple ⟨[]⟩) ∧ H' = rnR p mu (r.moved now) a cp H) := by
  refine Meets.enter Tryd.func30 rfl rfl ?_
  obtain ⟨bg, ck, la, se⟩ := r
  dsimp only at hl ⊢
  repeat' (first | (apply T.box1; apply rfl; apply rfl; apply rfl; intro nb) | with_reducible refine Sr.nil ?_ | with_reducible refine S.seq ?_ | with_reducible refine S.reg ?_ | fail)
  (apply S.draw; (case Hs => exact [.blk nb [.int .i64 now] 2]); (case es => exact  [5, 8]); (case n => exact  9); (case hn => rfl))
  repeat' (first | (apply T.mv; apply rfl; apply rfl) | (apply T.nilCheck; apply rfl; apply rfl) | (apply T.fieldAddrZ; apply rfl; apply rfl) | (apply T.load; apply rfl; apply rfl; infer_instance; apply rfl; apply rfl) | (apply T.makeFunc; apply rfl; apply rfl) | (apply T.store; apply rfl; apply rfl; infer_instance; (first | decide | (simp; omega) | simp); apply rfl) | with_reducible refine Sr.nil ?_ | with_reducible refine S.reg ?_ | (apply SA.qn; apply rfl; apply rfl; apply rfl; apply rfl; kernel_rfl) | (apply SA.qz; apply rfl; apply rfl; apply rfl; apply rfl; kernel_rfl) | (apply SA.qsn; apply rfl; apply rfl; apply rfl; kernel_rfl; (first | exact fun _ h => h | exact fun _ h => St.psub h (by ((repeat (first | dsimp only [List.set_cons_zero] | dsimp only [List.set_cons_succ])); repeat' first | exact PSub.refl _ | exact PSub.nil | (apply PSub.take; (repeat' first | (with_reducible exact pick_hd) | (with_reducible apply pick_tl))) | (with_reducible apply PSub.drop) | ((apply PSub.take); (repeat' first | exact pick_hd | (apply pick_tl))))))) | (apply SA.en; apply rfl; apply rfl; kernel_rfl) | (apply SA.done; apply rfl; kernel_rfl) | (apply SK.intro; (first | exact fun _ h => h | exact fun _ h => St.psub h (by ((repeat (first | dsimp only [List.set_cons_zero] | dsimp only [List.set_cons_succ])); repeat' first | exact PSub.refl _ | exact PSub.nil | (apply PSub.take; (repeat' first | (with_reducible exact pick_hd) | (with_reducible apply pick_tl))) | (with_reducible apply PSub.drop) | ((apply PSub.take); (repeat' first | exact pick_hd | (apply pick_tl))))))) | fail)
  all_goals
    skip
    refine Sr.front nb ?_
    refine Sr.front p ?_
    refine Sr.frontR a ?_
    refine T.call rfl rfl (deleteFunc_spec (q := nb) (now := now) (l := se) (fun s hs => List.mem_cons_of_mem _ (List.mem_cons_of_mem _ (mem_sets hs))) hl) ?_
    rintro _ _ ⟨rfl, rfl⟩
    repeat' (first | (apply T.nilCheck; apply rfl; apply rfl) | (apply T.fieldAddrZ; apply rfl; apply rfl) | (apply T.store; apply rfl; apply rfl; infer_instance; (first | decide | (simp; omega) | simp); apply rfl) | with_reducible refine Sr.nil ?_ | (apply T.doneW; apply rfl) | (with_reducible apply T.ofRet) | fail)
    exact ⟨_, PSub.take (pick_tl pick_hd) (PSub.take pick_hd (PSub.drop (sets_drop _ H se))), rfl, rfl⟩
end
end Go.Proofs.YtnimcchalinihaaDoor
/- The walk of the ring's Rotate, of the set without a key. -/
namespace Sg
/-- How many sets count behind a Rotate. -/
def Rn.count (r : Rn) (now u : Int) : Nat := 1 + (r.sets.filter (·.stays now u)).length
def Rn.rot (r : Rn) (now u : Int) (b mb : Nat) : Rn := ⟨true, now, r.last + 1, ⟨b, mb, r.last + 1, 0, true⟩ :: (r.sets.map (·.close u)).filter (·.live now)⟩
end Sg
namespace Go.Proofs.YtnimcchalinihaaDoor
open Sg Go.IntWalk
set_option maxRecDepth 100000
set_option maxHeartbeats 4000000
theorem setsR_app (H : List Res) (B : List Rg) : ∀ A : List Rg, setsR (A ++ B) H = setsR A (setsR B H)
  | [] => rfl
  | s :: A => by rw [List.cons_append, setsR, setsR, setsR_app H B A]
instance InB.sets {b : Nat} {vs : List Value} {E : TypeId} {X : List Res} [h : InB X b vs E] : {A : List Rg} → InB (setsR A X) b vs E
  | [] => h
  | _ :: A => ⟨List.mem_cons_of_mem _ (List.mem_cons_of_mem _ (InB.sets (A := A)).h)⟩
instance AtB.sets {b : Nat} {vs : List Value} {E : TypeId} {X : List Res} {f : Res → List Res} [h : AtB X b vs E f] : {A : List Rg} → AtB (setsR A X) b vs E (fun q => setsR A (f q))
  | [] => h
  | s :: A => by
    have h2 : AtB (setsR A X) b vs E (fun q => setsR A (f q)) := AtB.sets (A := A)
    have h3 : AtB (rgM s :: setsR A X) b vs E (fun q => rgM s :: setsR A (f q)) := AtB.tl
    have h4 : AtB (rgR s :: rgM s :: setsR A X) b vs E (fun q => rgR s :: rgM s :: setsR A (f q)) := AtB.tl
    exact h4
theorem setsR_perm (x : Res) (H : List Res) : ∀ l : List Rg, (x :: setsR l H).Perm (setsR l (x :: H))
  | [] => .refl _
  | _ :: l => ((List.Perm.swap _ _ _).trans ((List.Perm.swap _ _ _).cons _)).trans (((setsR_perm x H l).cons _).cons _)
theorem pts_close (u : Int) (l : List Rg) : (l.map (·.close u)).map ptV = l.map ptV := by
  rw [List.map_map]
  refine List.map_congr_left fun s _ => ?_
  simp only [Function.comp, Rg.close]
  split <;> rfl
section
variable {F : World} {M : List Nat} {H : List Res} {p : Nat} {r : Rn} {a : Option Addr} {cp : Nat} {now g : Int}
/-- What Rotate does. -/
def RotP (p : Nat) (r : Rn) (a : Option Addr) (cp : Nat) (now g : Int) (H : List Res) (e : Ending) (H' : List Res) : Prop :=
  if r.back now = true then e = .returned (.int .i64 162) ∧ H' = rnR p 0 r a cp H else
  if 8 < r.count now (endI now g) then e = .returned (.int .i64 161) ∧ H' = rnR p 0 r a cp H else
  ∃ b mb a' cp', e = .returned (.int .i64 0) ∧ H' = rnR p 0 (r.rot now (endI now g) b mb) a' cp' H
theorem rotate_spec (hT : Tabs F M) (hl : r.sets.length ≤ 100) (hla : -9223372036854775808 ≤ r.last ∧ r.last < 9223372036854775807) (hn : -9223372036854775808 ≤ now ∧ now ≤ 9223372036854775807) (hg : 0 ≤ g ∧ g ≤ 4294967296) :
    Meets Tryd.prog 12 [.pointer (some ⟨p, 0, none⟩), sV noneT, .int .i64 now, .int .i64 g] F M (rnR p 0 r a cp H) (RotP p r a cp now g H) := by
  refine Meets.enter Tryd.func12 rfl rfl ?_
  obtain ⟨bg, ck, la, se⟩ := r
  dsimp only at hl hla ⊢
  repeat' (first | (apply T.mv; apply rfl; apply rfl) | (apply T.asn; apply rfl; apply rfl) | (apply T.nilCheck; apply rfl; apply rfl) | (apply T.fieldAddrZ; apply rfl; apply rfl) | with_reducible refine Sr.nil ?_ | with_reducible refine S.seq ?_ | with_reducible refine S.reg ?_ | fail)
  refine T.call rfl rfl (lock_spec rfl) ?_
  rintro _ _ ⟨rfl, rfl⟩
  dsimp only [List.set_cons_zero]
  repeat' (first | (apply S.defer4; apply rfl; apply rfl; apply rfl; apply rfl) | (apply T.mv; apply rfl; apply rfl) | with_reducible refine Sr.nil ?_ | with_reducible refine S.seq ?_ | with_reducible refine S.block ?_ | with_reducible refine S.reg ?_ | (with_reducible apply T.ofRet) | fail)
  refine T.call rfl rfl (ringBack_spec (r := ⟨bg, ck, la, se⟩) (mu := 1) (a := a) (cp := cp)) ?_
  rintro _ _ ⟨rfl, rfl⟩
  cases hb : Rn.back ⟨bg, ck, la, se⟩ now with
  | true =>
    repeat' (first | (apply T.asn; apply rfl; apply rfl) | with_reducible refine Sr.nil ?_ | with_reducible refine S.seq ?_ | with_reducible refine S.reg ?_ | (apply S.condTV; apply rfl; (first | with_reducible rfl | decide)) | (with_reducible apply T.ofRet) | fail)
    refine T.retDr (rs := [.tmp 8]) rfl rfl rfl (unlock_late rfl).r ?_
    rintro _ _ ⟨rfl, rfl⟩
    exact ⟨⟨_, rfl⟩, _, .tmp rfl .nil, _, fun _ h => h, by show RotP p ⟨bg, ck, la, se⟩ a cp now g H _ _; unfold RotP; rw [if_pos hb]; exact ⟨rfl, rfl⟩⟩
  | false =>
  repeat' (first | (apply T.mv; apply rfl; apply rfl) | (apply T.asn; apply rfl; apply rfl) | (apply T.lss; apply rfl; apply rfl; apply rfl) | (apply T.gtr; apply rfl; apply rfl; apply rfl) | (apply T.pickF; apply rfl; apply rfl; apply rfl) | with_reducible refine Sr.nil ?_ | with_reducible refine S.seq ?_ | with_reducible refine S.reg ?_ | with_reducible refine S.skip ?_ | with_reducible refine S.inBlock ?_ | (apply T.ungV; apply rfl; (first | with_reducible rfl | decide)) | (apply S.condFV; apply rfl; (first | with_reducible rfl | decide)) | (apply S.condQ; apply rfl; all_goals (intro _; try (exfalso; first | omega | with_reducible contradiction))) | (apply T.gcase; apply rfl; apply rfl; all_goals (intro _; try (exfalso; first | omega | with_reducible contradiction))) | (with_reducible apply T.ofRet) | fail)
  refine T.call rfl rfl (ksNone_spec hT) ?_
  rintro _ _ ⟨rfl, rfl⟩
  repeat' (first | (apply T.mv; apply rfl; apply rfl) | (apply T.asn; apply rfl; apply rfl) | (apply T.neq; apply rfl; apply rfl; apply rfl) | (apply T.extract; apply rfl; apply rfl; apply rfl) | with_reducible refine Sr.nil ?_ | with_reducible refine S.seq ?_ | with_reducible refine S.reg ?_ | with_reducible refine S.skip ?_ | (apply S.condFV; apply rfl; (first | with_reducible rfl | decide)) | (with_reducible apply T.ofRet) | fail)
  refine T.call rfl rfl (ringEnd_spec hn hg) ?_
  rintro _ _ ⟨rfl, rfl⟩
  obtain ⟨u, hu⟩ : ∃ u, u = endI now g := ⟨_, rfl⟩
  have hur : -9223372036854775808 ≤ u ∧ u ≤ 9223372036854775807 := by
    rw [hu]
    unfold endI
    split <;> omega
  rw [show (Ending.returned (Value.int .i64 (endI now g))) = Ending.returned (.int .i64 u) by rw [hu]]
  have hml : (se.map ptV).length = se.length := List.length_map ..
  repeat' (first | (apply T.mv; apply rfl; apply rfl) | (apply T.asn; apply rfl; apply rfl) | (apply T.len; apply rfl; apply rfl) | (apply T.nilCheck; apply rfl; apply rfl) | (apply T.fieldAddrZ; apply rfl; apply rfl) | (apply T.load; apply rfl; apply rfl; infer_instance; apply rfl; apply rfl) | with_reducible refine Sr.nil ?_ | with_reducible refine S.seq ?_ | with_reducible refine S.block ?_ | with_reducible refine S.reg ?_ | (with_reducible apply T.ofRet) | fail)
  refine S.loopE 0 [0, 1, 2, 9, 11, 52, 53] (fun R b' μ H' e => ∃ i k : Nat, H' = R ∧ e = (12, .int .i64 k) :: (54, .int .i64 i) :: b' ∧ (i ≤ se.length ∧ k = 1 + ((se.take i).filter (·.stays now u)).length) ∧ μ = se.length - i) rfl rfl ?_ _ _ ⟨0, 1, rfl, rfl, ⟨Nat.zero_le _, rfl⟩, rfl⟩ (by repeat' first | exact trivial | refine And.intro rfl ?_)
  rintro _ _ _ ⟨i, k, hR, rfl, ⟨c1, c2⟩, rfl⟩ ih
  have hR2 := hR.symm
  subst hR2
  by_cases c3 : i < se.length
  · obtain ⟨s, hs⟩ : ∃ s, s = se[i] := ⟨_, rfl⟩
    have hgt : (se.map ptV)[i]? = some (ptV s) := by rw [List.getElem?_map, List.getElem?_eq_getElem c3, hs]; rfl
    have htk : se.take (i + 1) = se.take i ++ [s] := by rw [List.take_succ_eq_append_getElem c3, hs]
    have hm : s ∈ se := by rw [hs]; exact List.getElem_mem c3
    have hkl : k ≤ 101 := by
      have h1 : ((se.take i).filter (·.stays now u)).length ≤ (se.take i).length := List.length_filter_le ..
      rw [List.length_take] at h1
      omega
    haveI hI : InB (setsR se H) s.b (rgV s) 67 := ⟨mem_sets hm⟩
    clear hs
    obtain ⟨b, mb, ve, ti, o⟩ := s
    have hadd : ∀ x : Bool, (Rg.stays now u ⟨b, mb, ve, ti, o⟩ = x) → 1 + ((se.take (i + 1)).filter (·.stays now u)).length = k + (if x then 1 else 0) := fun x hx => by
      rw [htk, List.filter_append, List.length_append, c2]
      cases x <;> simp [hx] <;> omega
    cases o with
    | true =>
      by_cases hx : now < u
      · have hs2 := hadd true (by simp [Rg.stays, hx])
        repeat' (first | (apply T.loadE; apply rfl; apply rfl; infer_instance; exact hgt; apply rfl) | (apply T.mv; apply rfl; apply rfl) | (apply T.asn; apply rfl; apply rfl) | (apply T.nilCheck; apply rfl; apply rfl) | (apply T.fieldAddrZ; apply rfl; apply rfl) | (apply T.load; apply rfl; apply rfl; infer_instance; apply rfl; apply rfl) | (apply T.lss; apply rfl; apply rfl; apply rfl) | (apply T.addI; apply rfl; apply rfl; omega; apply rfl) | (apply T.ixN; apply rfl; apply rfl; infer_instance; omega; (first | omega | (simp only [List.length_map]; omega) | (simp; omega)); apply rfl) | (apply T.pickT; apply rfl; apply rfl; apply rfl) | with_reducible refine Sr.nil ?_ | with_reducible refine S.seq ?_ | with_reducible refine S.block ?_ | with_reducible refine S.reg ?_ | with_reducible refine S.skip ?_ | with_reducible refine S.inBlock ?_ | (apply T.ungV; apply rfl; (first | with_reducible rfl | decide)) | (apply T.skip; apply rfl; (first | with_reducible rfl | decide); apply rfl) | (apply T.skipU; apply rfl; apply rfl) | (apply S.condTV; apply rfl; (first | with_reducible rfl | decide)) | (apply S.condQ; apply rfl; all_goals (intro _; try (exfalso; first | omega | with_reducible contradiction))) | (apply T.gcase; apply rfl; apply rfl; all_goals (intro _; try (exfalso; first | omega | with_reducible contradiction))) | fail)
        exact ih _ _ _ _ ⟨i + 1, k + 1, rfl, rfl, ⟨c3, hs2.symm⟩, rfl⟩ (by omega) (by repeat' first | exact trivial | refine And.intro rfl ?_)
      · have hs2 := hadd false (by simp [Rg.stays, hx])
        repeat' (first | (apply T.loadE; apply rfl; apply rfl; infer_instance; exact hgt; apply rfl) | (apply T.mv; apply rfl; apply rfl) | (apply T.asn; apply rfl; apply rfl) | (apply T.nilCheck; apply rfl; apply rfl) | (apply T.fieldAddrZ; apply rfl; apply rfl) | (apply T.load; apply rfl; apply rfl; infer_instance; apply rfl; apply rfl) | (apply T.lss; apply rfl; apply rfl; apply rfl) | (apply T.addI; apply rfl; apply rfl; omega; apply rfl) | (apply T.ixN; apply rfl; apply rfl; infer_instance; omega; (first | omega | (simp only [List.length_map]; omega) | (simp; omega)); apply rfl) | (apply T.notB; apply rfl; apply rfl) | (apply T.pickT; apply rfl; apply rfl; apply rfl) | (apply T.pickF; apply rfl; apply rfl; apply rfl) | with_reducible refine Sr.nil ?_ | with_reducible refine S.seq ?_ | with_reducible refine S.block ?_ | with_reducible refine S.reg ?_ | with_reducible refine S.skip ?_ | with_reducible refine S.inBlock ?_ | (apply T.ungV; apply rfl; (first | with_reducible rfl | decide)) | (apply S.condFV; apply rfl; (first | with_reducible rfl | decide)) | (apply S.condQ; apply rfl; all_goals (intro _; try (exfalso; first | omega | with_reducible contradiction))) | (apply T.gcase; apply rfl; apply rfl; all_goals (intro _; try (exfalso; first | omega | with_reducible contradiction))) | (apply T.skip; apply rfl; apply rfl; apply rfl) | fail)
        exact ih _ _ _ _ ⟨i + 1, k, rfl, rfl, ⟨c3, hs2.symm⟩, rfl⟩ (by omega) (by repeat' first | exact trivial | refine And.intro rfl ?_)
    | false =>
      by_cases hx : now < ti
      · have hs2 := hadd true (by simp [Rg.stays, hx])
        repeat' (first | (apply T.loadE; apply rfl; apply rfl; infer_instance; exact hgt; apply rfl) | (apply T.mv; apply rfl; apply rfl) | (apply T.asn; apply rfl; apply rfl) | (apply T.nilCheck; apply rfl; apply rfl) | (apply T.fieldAddrZ; apply rfl; apply rfl) | (apply T.load; apply rfl; apply rfl; infer_instance; apply rfl; apply rfl) | (apply T.lss; apply rfl; apply rfl; apply rfl) | (apply T.addI; apply rfl; apply rfl; omega; apply rfl) | (apply T.ixN; apply rfl; apply rfl; infer_instance; omega; (first | omega | (simp only [List.length_map]; omega) | (simp; omega)); apply rfl) | (apply T.notB; apply rfl; apply rfl) | (apply T.pickT; apply rfl; apply rfl; apply rfl) | (apply T.pickF; apply rfl; apply rfl; apply rfl) | with_reducible refine Sr.nil ?_ | with_reducible refine S.seq ?_ | with_reducible refine S.block ?_ | with_reducible refine S.reg ?_ | with_reducible refine S.skip ?_ | with_reducible refine S.inBlock ?_ | (apply T.ungV; apply rfl; (first | with_reducible rfl | decide)) | (apply S.condQ; apply rfl; all_goals (intro _; try (exfalso; first | omega | with_reducible contradiction))) | (apply T.ung; apply rfl) | (apply T.skip; apply rfl; apply rfl; apply rfl) | fail)
        exact ih _ _ _ _ ⟨i + 1, k + 1, rfl, rfl, ⟨c3, hs2.symm⟩, rfl⟩ (by omega) (by repeat' first | exact trivial | refine And.intro rfl ?_)
      · have hs2 := hadd false (by simp [Rg.stays, hx])
        repeat' (first | (apply T.loadE; apply rfl; apply rfl; infer_instance; exact hgt; apply rfl) | (apply T.mv; apply rfl; apply rfl) | (apply T.asn; apply rfl; apply rfl) | (apply T.nilCheck; apply rfl; apply rfl) | (apply T.fieldAddrZ; apply rfl; apply rfl) | (apply T.load; apply rfl; apply rfl; infer_instance; apply rfl; apply rfl) | (apply T.lss; apply rfl; apply rfl; apply rfl) | (apply T.addI; apply rfl; apply rfl; omega; apply rfl) | (apply T.ixN; apply rfl; apply rfl; infer_instance; omega; (first | omega | (simp only [List.length_map]; omega) | (simp; omega)); apply rfl) | (apply T.notB; apply rfl; apply rfl) | (apply T.pickT; apply rfl; apply rfl; apply rfl) | (apply T.pickF; apply rfl; apply rfl; apply rfl) | with_reducible refine Sr.nil ?_ | with_reducible refine S.seq ?_ | with_reducible refine S.block ?_ | with_reducible refine S.reg ?_ | with_reducible refine S.skip ?_ | with_reducible refine S.inBlock ?_ | (apply T.ungV; apply rfl; (first | with_reducible rfl | decide)) | (apply S.condQ; apply rfl; all_goals (intro _; try (exfalso; first | omega | with_reducible contradiction))) | (apply T.ung; apply rfl) | (apply T.skip; apply rfl; apply rfl; apply rfl) | fail)
        exact ih _ _ _ _ ⟨i + 1, k, rfl, rfl, ⟨c3, hs2.symm⟩, rfl⟩ (by omega) (by repeat' first | exact trivial | refine And.intro rfl ?_)
  · obtain rfl : i = se.length := by omega
    clear ih
    rw [List.take_length] at c2
    have hcn : Rn.count ⟨bg, ck, la, se⟩ now u = k := c2.symm
    have hb' : ¬ Rn.back ⟨bg, ck, la, se⟩ now = true := by rw [hb]; simp
    by_cases h8 : 8 < k
    · repeat' (first | (apply T.mv; apply rfl; apply rfl) | (apply T.asn; apply rfl; apply rfl) | (apply T.lss; apply rfl; apply rfl; apply rfl) | (apply T.gtr; apply rfl; apply rfl; apply rfl) | with_reducible refine Sr.nil ?_ | with_reducible refine S.seq ?_ | with_reducible refine S.reg ?_ | (apply S.exit; apply rfl) | (apply S.condQ; apply rfl; all_goals (intro _; try (exfalso; first | omega | with_reducible contradiction))) | fail)
      refine T.retDr (rs := [.tmp 8]) rfl rfl rfl (unlock_late rfl).r ?_
      rintro _ _ ⟨rfl, rfl⟩
      exact ⟨⟨_, rfl⟩, _, .tmp rfl .nil, _, fun _ h => h, by show RotP p ⟨bg, ck, la, se⟩ a cp now g H _ _; unfold RotP; rw [if_neg hb', if_pos (by rw [← hu, hcn]; exact h8)]; exact ⟨rfl, rfl⟩⟩
    · repeat' (first | (apply T.mapMake; apply rfl; intro mb) | (apply T.mv; apply rfl; apply rfl) | (apply T.asn; apply rfl; apply rfl) | (apply T.len; apply rfl; apply rfl) | (apply T.lss; apply rfl; apply rfl; apply rfl) | (apply T.gtr; apply rfl; apply rfl; apply rfl) | with_reducible refine Sr.nil ?_ | with_reducible refine S.seq ?_ | with_reducible refine S.block ?_ | with_reducible refine S.reg ?_ | with_reducible refine S.skip ?_ | (apply S.exit; apply rfl) | (apply S.condQ; apply rfl; all_goals (intro _; try (exfalso; first | omega | with_reducible contradiction))) | fail)
      refine S.loopE 0 [0, 1, 2, 11, 15, 88, 89] (fun R b' μ H' e => H' = R ∧ e = (90, .int .i64 0) :: b' ∧ μ = 0) rfl rfl ?_ _ _ ⟨rfl, rfl, rfl⟩ (by repeat' first | exact trivial | refine And.intro rfl ?_)
      rintro _ _ _ ⟨hR, rfl, rfl⟩ ih
      have hR2 := hR.symm
      subst hR2
      clear ih hR
      repeat' (first | (apply T.mv; apply rfl; apply rfl) | (apply T.len; apply rfl; apply rfl) | (apply T.nilCheck; apply rfl; apply rfl) | (apply T.fieldAddrZ; apply rfl; apply rfl) | (apply T.load; apply rfl; apply rfl; infer_instance; apply rfl; apply rfl) | (apply T.lss; apply rfl; apply rfl; apply rfl) | with_reducible refine Sr.nil ?_ | with_reducible refine S.seq ?_ | with_reducible refine S.block ?_ | with_reducible refine S.reg ?_ | (apply S.exit; apply rfl) | (apply S.condFV; apply rfl; (first | with_reducible rfl | decide)) | fail)
      refine S.loopE 0 [0, 1, 2, 11, 15, 105, 106] (fun R b' μ H' e => ∃ i : Nat, H' = rgM ⟨0, mb, 0, 0, true⟩ :: .blk p (rnV 1 ⟨bg, ck, la, se⟩ a cp) 58 :: rowP a cp se :: setsR ((se.take i).map (Rg.close u) ++ se.drop i) H ∧ e = (107, .int .i64 i) :: b' ∧ i ≤ se.length ∧ μ = se.length - i) rfl rfl ?_ _ _ ⟨0, rfl, rfl, Nat.zero_le _, rfl⟩ (by repeat' first | exact trivial | refine And.intro rfl ?_)
      rintro _ _ _ ⟨i, rfl, rfl, d1, rfl⟩ ih
      by_cases d2 : i < se.length
      · obtain ⟨s, hs⟩ : ∃ s, s = se[i] := ⟨_, rfl⟩
        have hgt : (se.map ptV)[i]? = some (ptV s) := by rw [List.getElem?_map, List.getElem?_eq_getElem d2, hs]; rfl
        have htk : se.take (i + 1) = se.take i ++ [s] := by rw [List.take_succ_eq_append_getElem d2, hs]
        have hdr : se.drop i = s :: se.drop (i + 1) := by rw [List.drop_eq_getElem_cons d2, hs]
        have heq : setsR ((se.take (i + 1)).map (Rg.close u) ++ se.drop (i + 1)) H = setsR ((se.take i).map (Rg.close u)) (rgR (s.close u) :: rgM (s.close u) :: setsR (se.drop (i + 1)) H) := by
          rw [htk, List.map_append, List.append_assoc, setsR_app]
          rfl
        rw [hdr, setsR_app, setsR]
        clear hs
        obtain ⟨b, mb2, ve, ti, o⟩ := s
        cases o with
        | false =>
          repeat' (first | (apply T.loadE; apply rfl; apply rfl; infer_instance; exact hgt; apply rfl) | (apply T.mv; apply rfl; apply rfl) | (apply T.asn; apply rfl; apply rfl) | (apply T.nilCheck; apply rfl; apply rfl) | (apply T.fieldAddrZ; apply rfl; apply rfl) | (apply T.load; apply rfl; apply rfl; infer_instance; apply rfl; apply rfl) | (apply T.lss; apply rfl; apply rfl; apply rfl) | (apply T.addI; apply rfl; apply rfl; omega; apply rfl) | (apply T.ixN; apply rfl; apply rfl; infer_instance; omega; (first | omega | (simp only [List.length_map]; omega) | (simp; omega)); apply rfl) | with_reducible refine Sr.nil ?_ | with_reducible refine S.seq ?_ | with_reducible refine S.block ?_ | with_reducible refine S.reg ?_ | with_reducible refine S.skip ?_ | with_reducible refine S.inBlock ?_ | (apply S.condFV; apply rfl; (first | with_reducible rfl | decide)) | (apply S.condQ; apply rfl; all_goals (intro _; try (exfalso; first | omega | with_reducible contradiction))) | fail)
          exact ih _ _ _ _ ⟨i + 1, by rw [heq] <;> rfl, rfl, d2, rfl⟩ (by omega) (by repeat' first | exact trivial | refine And.intro rfl ?_)
        | true =>
          repeat' (first | (apply T.loadE; apply rfl; apply rfl; infer_instance; exact hgt; apply rfl) | (apply T.mv; apply rfl; apply rfl) | (apply T.asn; apply rfl; apply rfl) | (apply T.nilCheck; apply rfl; apply rfl) | (apply T.fieldAddrZ; apply rfl; apply rfl) | (apply T.load; apply rfl; apply rfl; infer_instance; apply rfl; apply rfl) | (apply T.lss; apply rfl; apply rfl; apply rfl) | (apply T.addI; apply rfl; apply rfl; omega; apply rfl) | (apply T.ixN; apply rfl; apply rfl; infer_instance; omega; (first | omega | (simp only [List.length_map]; omega) | (simp; omega)); apply rfl) | (apply T.store; apply rfl; apply rfl; infer_instance; (first | decide | (simp; omega) | simp); apply rfl) | with_reducible refine Sr.nil ?_ | with_reducible refine S.seq ?_ | with_reducible refine S.block ?_ | with_reducible refine S.reg ?_ | with_reducible refine S.skip ?_ | with_reducible refine S.inBlock ?_ | (apply S.condTV; apply rfl; (first | with_reducible rfl | decide)) | (apply S.condQ; apply rfl; all_goals (intro _; try (exfalso; first | omega | with_reducible contradiction))) | fail)
          exact ih _ _ _ _ ⟨i + 1, by rw [heq] <;> rfl, rfl, d2, rfl⟩ (by omega) (by repeat' first | exact trivial | refine And.intro rfl ?_)
      · obtain rfl : i = se.length := by omega
        rw [List.take_length, List.drop_length, List.append_nil]
        clear ih
        have hL1 : (se.map (Rg.close u)).length = se.length := List.length_map ..
        have hL2 := pts_close u se
        repeat' (first | (apply T.mv; apply rfl; apply rfl) | (apply T.lss; apply rfl; apply rfl; apply rfl) | with_reducible refine Sr.nil ?_ | with_reducible refine S.seq ?_ | with_reducible refine S.reg ?_ | (apply S.exit; apply rfl) | (apply S.condQ; apply rfl; all_goals (intro _; try (exfalso; first | omega | with_reducible contradiction))) | fail)
        refine Sr.weaken (H' := .blk p (rnV 1 ⟨bg, ck, la, se.map (Rg.close u)⟩ a cp) 58 :: rowP a cp (se.map (Rg.close u)) :: setsR (se.map (Rg.close u)) (rgM ⟨0, mb, 0, 0, true⟩ :: H)) ?_ ?_
        rotate_left
        · dsimp only [rowP, rnV]
          rw [hL1, hL2]
          exact fun w h => h.perm (((List.Perm.swap _ _ _).trans ((List.Perm.swap _ _ _).cons _)).trans (((setsR_perm _ H _).cons _).cons _))
        generalize hL : se.map (Rg.close u) = L at *
        refine T.call rfl rfl (move_spec (r := ⟨bg, ck, la, L⟩) (mu := 1) (now := now) (by show L.length ≤ 100; omega)) ?_
        rintro _ _ ⟨rfl, rfl⟩
        dsimp only [Rn.moved]
        have hK1 : (L.filter (·.live now)).length ≤ 100 := Nat.le_trans (List.length_filter_le ..) (by omega)
        generalize hK : L.filter (·.live now) = K at *
        dsimp only [rnR, rnV]
        repeat' (first | (apply T.mv; apply rfl; apply rfl) | (apply T.nilCheck; apply rfl; apply rfl) | (apply T.fieldAddrZ; apply rfl; apply rfl) | (apply T.load; apply rfl; apply rfl; infer_instance; apply rfl; apply rfl) | (apply T.addI; apply rfl; apply rfl; omega; apply rfl) | (apply T.store; apply rfl; apply rfl; infer_instance; (first | decide | (simp; omega) | simp); apply rfl) | with_reducible refine Sr.nil ?_ | with_reducible refine S.seq ?_ | with_reducible refine S.reg ?_ | (with_reducible apply T.ofRet) | fail)
        have hone : ∀ s : Rg, (ptV s).oneCell' = true := fun _ => rfl
        (apply S.drawL; (case Hs => exact [.blk p (rnV 1 ⟨true, now, la + 1, K⟩ a cp) 58]); (case es => exact  [8, 9, 14, 17]); (case lt => exact  [17]); (case n => exact  18); (case hn => rfl))
        repeat' (first | (apply T.mv; apply rfl; apply rfl) | (apply T.nilCheck; apply rfl; apply rfl) | (apply T.fieldAddrZ; apply rfl; apply rfl) | (apply T.load; apply rfl; apply rfl; infer_instance; apply rfl; apply rfl) | (apply T.buildL; apply rfl; apply rfl; apply rfl) | (apply T.box; apply rfl; apply rfl; intro nb) | (apply T.bs; apply rfl; apply rfl; apply rfl; apply rfl; apply rfl; apply rfl; intro nb) | with_reducible refine Sr.nil ?_ | (apply SA.qn; apply rfl; apply rfl; apply rfl; apply rfl; kernel_rfl) | (apply SA.qz; apply rfl; apply rfl; apply rfl; apply rfl; kernel_rfl) | (apply SA.qsn; apply rfl; apply rfl; apply rfl; kernel_rfl; (first | exact fun _ h => h | exact fun _ h => St.psub h (by ((repeat (first | dsimp only [List.set_cons_zero] | dsimp only [List.set_cons_succ])); repeat' first | exact PSub.refl _ | exact PSub.nil | (apply PSub.take; (repeat' first | (with_reducible exact pick_hd) | (with_reducible apply pick_tl))) | (with_reducible apply PSub.drop) | ((apply PSub.take); (repeat' first | exact pick_hd | (apply pick_tl))))))) | (apply SA.en; apply rfl; apply rfl; kernel_rfl) | (apply SK.intro; (first | exact fun _ h => h | exact fun _ h => St.psub h (by ((repeat (first | dsimp only [List.set_cons_zero] | dsimp only [List.set_cons_succ])); repeat' first | exact PSub.refl _ | exact PSub.nil | (apply PSub.take; (repeat' first | (with_reducible exact pick_hd) | (with_reducible apply pick_tl))) | (with_reducible apply PSub.drop) | ((apply PSub.take); (repeat' first | exact pick_hd | (apply pick_tl))))))) | fail)
        rename_i b2
        refine Sr.rowOf (n := 1) rfl (by decide) ?_
        refine T.appendAll (g := ptV) (xs := [⟨b2, mb, la + 1, 0, true⟩]) (us := K) (n := 1) (m := K.length) rfl rfl inferInstance inferInstance rfl hone rfl (by constructor <;> omega) rfl ?_
        intro na nc
        rw [Nat.add_comm 1 K.length]
        repeat' (first | (apply T.asn; apply rfl; apply rfl) | (apply T.nilCheck; apply rfl; apply rfl) | (apply T.fieldAddrZ; apply rfl; apply rfl) | (apply T.store; apply rfl; apply rfl; infer_instance; (first | decide | (simp; omega) | simp); apply rfl) | with_reducible refine Sr.nil ?_ | with_reducible refine S.seq ?_ | with_reducible refine S.reg ?_ | (apply SA.qn; apply rfl; apply rfl; apply rfl; apply rfl; kernel_rfl) | (apply SA.en; apply rfl; apply rfl; kernel_rfl) | (apply SA.done; apply rfl; kernel_rfl) | (apply SK.late; decide) | (apply SK.intro; (first | exact fun _ h => h | exact fun _ h => St.psub h (by ((repeat (first | dsimp only [List.set_cons_zero] | dsimp only [List.set_cons_succ])); repeat' first | exact PSub.refl _ | exact PSub.nil | (apply PSub.take; (repeat' first | (with_reducible exact pick_hd) | (with_reducible apply pick_tl))) | (with_reducible apply PSub.drop) | ((apply PSub.take); (repeat' first | exact pick_hd | (apply pick_tl))))))) | fail)
        skip
        refine S.front p ?_
        refine T.retDr (rs := [.tmp 8]) rfl rfl rfl (unlock_late rfl).r ?_
        rintro _ _ ⟨rfl, rfl⟩
        refine ⟨⟨_, rfl⟩, _, .tmp rfl .nil, rnR p 0 ⟨true, now, la + 1, ⟨b2, mb, la + 1, 0, true⟩ :: K⟩ na nc H, fun _ h => ?_, ?_⟩
        · exact (h.psub (PSub.take pick_hd (PSub.take pick_hd (PSub.take pick_hd (PSub.drop (PSub.refl _)))))).perm ((((setsR_perm _ H K).symm.cons _).cons _).cons _)
        · show RotP p ⟨bg, ck, la, se⟩ a cp now g H _ _
          unfold RotP
          rw [if_neg hb', if_neg (by rw [← hu, hcn]; exact h8)]
          refine ⟨b2, mb, na, nc, rfl, ?_⟩
          unfold Rn.rot
          dsimp only
          rw [← hu, hL, hK]
end
end Go.Proofs.YtnimcchalinihaaDoor
/- The walks of the library's Delete, as the ring calls it, and of the ring's Drop. -/
namespace Go.Proofs.YtnimcchalinihaaDoor
open Sg Go.IntWalk
set_option maxRecDepth 100000
set_option maxHeartbeats 4000000
section
variable {F : World} {M : List Nat} {H : List Res} {p : Nat} {r : Rn} {a : Option Addr} {cp i : Nat} {l : List Rg}
theorem delete_spec (hi : i < l.length) (hl : l.length ≤ 100) :
    Meets Tryd.prog 32 [.slice a l.length cp, .int .i64 i, .int .i64 ((i : Int) + 1)] F M (rowP a cp l :: H) (fun e H' => e = .returned (.slice a (l.length - 1) cp) ∧ H' = .row a cp 64 1 (l.length - 1) ((l.eraseIdx i).map ptV) :: H) := by
  refine Meets.enter Tryd.func32 rfl rfl ?_
  refine S.capR (ad := a) inferInstance fun hcap => ?_
  refine S.rowSome (by omega) ?_
  rintro g rfl
  have hne : ¬ (i : Int) = (i : Int) + 1 := by omega
  have hml : (l.map ptV).length = l.length := List.length_map ..
  have hone : ∀ u ∈ l.map ptV, u.oneCell' = true := fun u hu => by
    obtain ⟨s, _, rfl⟩ := List.mem_map.1 hu
    rfl
  repeat' (first | (apply Sr.same; refine T.slice3 (i := i) (j := i + 1) (k := l.length) rfl rfl rfl rfl (by omega) rfl ?_) | (apply T.mv; apply rfl; apply rfl) | (apply T.asn; apply rfl; apply rfl) | (apply T.len; apply rfl; apply rfl) | (apply T.eql; apply rfl; apply rfl; apply rfl) | with_reducible refine Sr.nil ?_ | with_reducible refine S.seq ?_ | with_reducible refine S.reg ?_ | with_reducible refine S.skip ?_ | (apply S.condQ; apply rfl; all_goals (intro _; try (exfalso; first | omega | with_reducible contradiction))) | fail)
  (apply S.draw; (case Hs => exact []); (case es => exact  [6]); (case n => exact  8); (case hn => rfl))
  repeat' (first | (apply Sr.same; refine T.sliceLK (i := i + 1) rfl rfl (by omega) rfl ?_) | (apply T.mv; apply rfl; apply rfl) | (apply T.sliceHK; apply rfl; apply rfl; omega; apply rfl) | with_reducible refine Sr.nil ?_ | (apply SA.qn; apply rfl; apply rfl; apply rfl; apply rfl; kernel_rfl) | (apply SA.en; apply rfl; apply rfl; kernel_rfl) | fail)
  obtain ⟨A, hA1, hA2⟩ : ∃ A, saddr (some ⟨g, 0, none⟩) cp (i + 1) 1 = some A ∧ (l.length - (i + 1) = 0 ∨ A = ⟨g, i + 1, none⟩) := by
    unfold saddr
    by_cases h : cp = i + 1
    · exact ⟨⟨g, 0, none⟩, by rw [if_pos h], .inl (by omega)⟩
    · exact ⟨⟨g, i + 1, none⟩, by rw [if_neg h]; simp [addr_add], .inr rfl⟩
  rw [hA1]
  refine T.appendIn (i := i) (m := l.length - (i + 1)) (j := i + 1) rfl rfl hA2 (by omega) (by omega) (by omega) hone rfl ?_
  rw [show i + (l.length - (i + 1)) = l.length - 1 by omega]
  have hvl : (((l.map ptV).drop (i + 1)).take (l.length - (i + 1))).length = l.length - (i + 1) := by rw [List.length_take, List.length_drop]; omega
  have htake := setL_app (((l.map ptV).drop (i + 1)).take (l.length - (i + 1))) (l.map ptV) i (by omega)
  rw [hvl, show i + (l.length - (i + 1)) = l.length - 1 by omega] at htake
  have hcsl : (setL (l.map ptV) i (((l.map ptV).drop (i + 1)).take (l.length - (i + 1)))).length = l.length := (setL_len _ _ _).trans hml
  generalize hcs : setL (l.map ptV) i (((l.map ptV).drop (i + 1)).take (l.length - (i + 1))) = cs at htake hcsl ⊢
  have her : cs.take (l.length - 1) = (l.eraseIdx i).map ptV := by
    rw [htake, List.take_of_length_le (l := (l.map ptV).drop (i + 1)) (by rw [List.length_drop]; omega), List.eraseIdx_eq_take_drop_succ, List.map_append, List.map_take, List.map_drop]
  have hsd : saddr (some ⟨g, 0, none⟩) cp (l.length - 1) 1 = some ⟨g, l.length - 1, none⟩ := by
    unfold saddr
    rw [if_neg (by omega)]
    simp [addr_add]
  repeat' (first | (apply T.mv; apply rfl; apply rfl) | (apply T.asn; apply rfl; apply rfl) | (apply T.len; apply rfl; apply rfl) | (apply T.sliceLHK; apply rfl; apply rfl; apply rfl; omega; apply rfl) | with_reducible refine Sr.nil ?_ | with_reducible refine S.seq ?_ | with_reducible refine S.reg ?_ | (apply SA.qn; apply rfl; apply rfl; apply rfl; apply rfl; kernel_rfl) | (apply SA.done; apply rfl; kernel_rfl) | (apply SK.intro; (first | exact fun _ h => h | exact fun _ h => St.psub h (by ((repeat (first | dsimp only [List.set_cons_zero] | dsimp only [List.set_cons_succ])); repeat' first | exact PSub.refl _ | exact PSub.nil | (apply PSub.take; (repeat' first | (with_reducible exact pick_hd) | (with_reducible apply pick_tl))) | (with_reducible apply PSub.drop) | ((apply PSub.take); (repeat' first | exact pick_hd | (apply pick_tl))))))) | fail)
  skip
  rw [hsd]
  refine T.clear (z := .pointer none) (o := l.length - 1) (k := l.length - (l.length - 1)) zeroP rfl rfl rfl (by omega) (by omega) ?_
  refine Sr.weaken (H' := .row (some ⟨g, 0, none⟩) cp 64 1 (l.length - 1) ((setL cs (l.length - 1) (List.replicate (l.length - (l.length - 1)) (.pointer none))).take (l.length - 1)) :: H) ?_ (fun w h => h.rowTo (by omega))
  rw [setL_take _ _ _ _ (Nat.le_refl _), her]
  repeat' (first | (apply T.mv; apply rfl; apply rfl) | (apply T.asn; apply rfl; apply rfl) | with_reducible refine Sr.nil ?_ | with_reducible refine S.seq ?_ | with_reducible refine S.reg ?_ | (apply T.retW; apply rfl) | fail)
  exact ⟨_, PSub.refl _, rfl, rfl⟩
/-- The place of a set of a version that holds. -/
def findV (v ck : Int) : List Rg → Nat → Option Nat
  | [], _ => none
  | s :: l, i => if s.ver = v ∧ s.live ck = true then some i else findV v ck l (i + 1)
def DropP (p : Nat) (r : Rn) (a : Option Addr) (cp : Nat) (v : Int) (H : List Res) (e : Ending) (H' : List Res) : Prop := match findV v r.clock r.sets 0 with
  | none => e = .returned (.int .i64 170) ∧ H' = rnR p 0 r a cp H
  | some i => e = .returned (.int .i64 0) ∧ H' = rnR p 0 { r with sets := r.sets.eraseIdx i } a cp H
theorem sets_erase (H : List Res) : ∀ (l : List Rg) (i : Nat), PSub (setsR (l.eraseIdx i) H) (setsR l H)
  | [], _ => PSub.refl _
  | _ :: _, 0 => PSub.drop (PSub.drop (PSub.refl _))
  | _ :: l, i + 1 => PSub.take pick_hd (PSub.take pick_hd (sets_erase H l i))
theorem drop_spec {v : Int} (hl : r.sets.length ≤ 100) : Meets Tryd.prog 14 [.pointer (some ⟨p, 0, none⟩), .int .i64 v] F M (rnR p 0 r a cp H) (DropP p r a cp v H) := by
  refine Meets.enter Tryd.func14 rfl rfl ?_
  obtain ⟨bg, ck, la, se⟩ := r
  dsimp only at hl ⊢
  repeat' (first | (apply T.mv; apply rfl; apply rfl) | (apply T.asn; apply rfl; apply rfl) | (apply T.nilCheck; apply rfl; apply rfl) | (apply T.fieldAddrZ; apply rfl; apply rfl) | with_reducible refine Sr.nil ?_ | with_reducible refine S.seq ?_ | with_reducible refine S.reg ?_ | fail)
  refine T.call rfl rfl (lock_spec rfl) ?_
  rintro _ _ ⟨rfl, rfl⟩
  dsimp only [List.set_cons_zero]
  obtain ⟨Q, hQ⟩ : ∃ Q, Q = findV v ck se 0 := ⟨_, rfl⟩
  have hml : (se.map ptV).length = se.length := List.length_map ..
  repeat' (first | (apply S.defer4; apply rfl; apply rfl; apply rfl; apply rfl) | (apply T.mv; apply rfl; apply rfl) | (apply T.len; apply rfl; apply rfl) | (apply T.nilCheck; apply rfl; apply rfl) | (apply T.fieldAddrZ; apply rfl; apply rfl) | (apply T.load; apply rfl; apply rfl; infer_instance; apply rfl; apply rfl) | with_reducible refine Sr.nil ?_ | with_reducible refine S.seq ?_ | with_reducible refine S.block ?_ | with_reducible refine S.reg ?_ | (with_reducible apply T.ofRet) | fail)
  refine S.loopE 0 [0, 1, 17, 18] (fun R b' μ H' e => ∃ i : Nat, H' = R ∧ e = (19, .int .i64 i) :: b' ∧ (i ≤ se.length ∧ findV v ck (se.drop i) i = Q) ∧ μ = se.length - i) rfl rfl ?_ _ _ ⟨0, rfl, rfl, ⟨Nat.zero_le _, hQ.symm⟩, rfl⟩ (by repeat' first | exact trivial | refine And.intro rfl ?_)
  rintro _ _ _ ⟨i, hR, rfl, ⟨c1, c2⟩, rfl⟩ ih
  have hR2 := hR.symm
  subst hR2
  clear hR
  by_cases c3 : i < se.length
  · obtain ⟨s, hs⟩ : ∃ s, s = se[i] := ⟨_, rfl⟩
    have hgt : (se.map ptV)[i]? = some (ptV s) := by rw [List.getElem?_map, List.getElem?_eq_getElem c3, hs]; rfl
    rw [List.drop_eq_getElem_cons c3, ← hs, findV] at c2
    haveI hI : InB (setsR se H) s.b (rgV s) 67 := ⟨mem_sets (by rw [hs]; exact List.getElem_mem c3)⟩
    by_cases hv : s.ver = v
    · repeat' (first | (apply T.loadE; apply rfl; apply rfl; infer_instance; exact hgt; apply rfl) | (apply T.mv; apply rfl; apply rfl) | (apply T.asn; apply rfl; apply rfl) | (apply T.nilCheck; apply rfl; apply rfl) | (apply T.fieldAddrZ; apply rfl; apply rfl) | (apply T.load; apply rfl; apply rfl; infer_instance; apply rfl; apply rfl) | (apply T.lss; apply rfl; apply rfl; apply rfl) | (apply T.eql; apply rfl; apply rfl; apply rfl) | (apply T.ixN; apply rfl; apply rfl; infer_instance; omega; (first | omega | (simp only [List.length_map]; omega) | (simp; omega)); apply rfl) | with_reducible refine Sr.nil ?_ | with_reducible refine S.seq ?_ | with_reducible refine S.block ?_ | with_reducible refine S.reg ?_ | with_reducible refine S.skip ?_ | (apply T.ungV; apply rfl; (first | with_reducible rfl | decide)) | (apply S.condQ; apply rfl; all_goals (intro _; try (exfalso; first | omega | with_reducible contradiction))) | (apply T.gcase; apply rfl; apply rfl; all_goals (intro _; try (exfalso; first | omega | with_reducible contradiction))) | fail)
      refine T.call rfl rfl (setLive_spec (s := s)) ?_
      rintro _ _ ⟨rfl, hH⟩
      have hH2 := hH.symm
      subst hH2
      cases hlv : s.live ck with
      | false =>
        rw [if_neg (fun h => by rw [hlv] at h; cases h.2)] at c2
        repeat' (first | (apply T.mv; apply rfl; apply rfl) | (apply T.addI; apply rfl; apply rfl; omega; apply rfl) | (apply T.pickT; apply rfl; apply rfl; apply rfl) | with_reducible refine Sr.nil ?_ | with_reducible refine S.reg ?_ | with_reducible refine S.skip ?_ | with_reducible refine S.inBlock ?_ | (apply S.condFV; apply rfl; (first | with_reducible rfl | decide)) | (with_reducible apply T.ofRet) | fail)
        exact ih _ _ _ _ ⟨i + 1, rfl, rfl, ⟨c3, c2⟩, rfl⟩ (by omega) (by repeat' first | exact trivial | refine And.intro rfl ?_)
      | true =>
        rw [if_pos ⟨hv, hlv⟩] at c2
        have hQ2 : findV v ck se 0 = some i := by rw [← hQ, ← c2]
        have hel : (se.eraseIdx i).length = se.length - 1 := List.length_eraseIdx_of_lt c3
        repeat' (first | (apply T.mv; apply rfl; apply rfl) | (apply T.nilCheck; apply rfl; apply rfl) | (apply T.fieldAddrZ; apply rfl; apply rfl) | (apply T.load; apply rfl; apply rfl; infer_instance; apply rfl; apply rfl) | (apply T.addI; apply rfl; apply rfl; omega; apply rfl) | (apply T.pickT; apply rfl; apply rfl; apply rfl) | with_reducible refine Sr.nil ?_ | with_reducible refine S.seq ?_ | with_reducible refine S.reg ?_ | (apply S.condTV; apply rfl; (first | with_reducible rfl | decide)) | (with_reducible apply T.ofRet) | fail)
        refine Sr.frontR a ?_
        refine T.call rfl rfl (delete_spec (l := se) (i := i) c3 hl) ?_
        rintro _ _ ⟨rfl, rfl⟩
        rw [← hel]
        repeat' (first | (apply T.asn; apply rfl; apply rfl) | (apply T.nilCheck; apply rfl; apply rfl) | (apply T.fieldAddrZ; apply rfl; apply rfl) | (apply T.store; apply rfl; apply rfl; infer_instance; (first | decide | (simp; omega) | simp); apply rfl) | with_reducible refine Sr.nil ?_ | with_reducible refine S.seq ?_ | with_reducible refine S.reg ?_ | (with_reducible apply T.ofRet) | fail)
        refine S.front p ?_
        refine T.retDr (rs := [.tmp 4]) rfl rfl rfl (unlock_late rfl).r ?_
        rintro _ _ ⟨rfl, rfl⟩
        exact ⟨⟨_, rfl⟩, _, .tmp rfl .nil, _, fun _ h => h.psub (PSub.take pick_hd (PSub.take pick_hd (sets_erase H se i))), by show DropP p ⟨bg, ck, la, se⟩ a cp v H _ _; unfold DropP; dsimp only; rw [hQ2]; exact ⟨rfl, rfl⟩⟩
    · rw [if_neg (fun h => hv h.1)] at c2
      repeat' (first | (apply T.loadE; apply rfl; apply rfl; infer_instance; exact hgt; apply rfl) | (apply T.mv; apply rfl; apply rfl) | (apply T.asn; apply rfl; apply rfl) | (apply T.nilCheck; apply rfl; apply rfl) | (apply T.fieldAddrZ; apply rfl; apply rfl) | (apply T.load; apply rfl; apply rfl; infer_instance; apply rfl; apply rfl) | (apply T.lss; apply rfl; apply rfl; apply rfl) | (apply T.eql; apply rfl; apply rfl; apply rfl) | (apply T.addI; apply rfl; apply rfl; omega; apply rfl) | (apply T.ixN; apply rfl; apply rfl; infer_instance; omega; (first | omega | (simp only [List.length_map]; omega) | (simp; omega)); apply rfl) | (apply T.pickF; apply rfl; apply rfl; apply rfl) | with_reducible refine Sr.nil ?_ | with_reducible refine S.seq ?_ | with_reducible refine S.block ?_ | with_reducible refine S.reg ?_ | with_reducible refine S.skip ?_ | with_reducible refine S.inBlock ?_ | (apply T.skip; apply rfl; (first | with_reducible rfl | decide); apply rfl) | (apply S.condFV; apply rfl; (first | with_reducible rfl | decide)) | (apply S.condQ; apply rfl; all_goals (intro _; try (exfalso; first | omega | with_reducible contradiction))) | (apply T.gcase; apply rfl; apply rfl; all_goals (intro _; try (exfalso; first | omega | with_reducible contradiction))) | fail)
      exact ih _ _ _ _ ⟨i + 1, rfl, rfl, ⟨c3, c2⟩, rfl⟩ (by omega) (by repeat' first | exact trivial | refine And.intro rfl ?_)
  · obtain rfl : i = se.length := by omega
    rw [List.drop_length] at c2
    have hQ2 : findV v ck se 0 = none := by rw [← hQ, ← c2]; rfl
    repeat' (first | (apply T.asn; apply rfl; apply rfl) | (apply T.lss; apply rfl; apply rfl; apply rfl) | with_reducible refine Sr.nil ?_ | with_reducible refine S.seq ?_ | with_reducible refine S.reg ?_ | (apply S.exit; apply rfl) | (apply S.condQ; apply rfl; all_goals (intro _; try (exfalso; first | omega | with_reducible contradiction))) | fail)
    refine T.retDr (rs := [.tmp 4]) rfl rfl rfl (unlock_late rfl).r ?_
    rintro _ _ ⟨rfl, rfl⟩
    exact ⟨⟨_, rfl⟩, _, .tmp rfl .nil, _, fun _ h => h, by show DropP p ⟨bg, ck, la, se⟩ a cp v H _ _; unfold DropP; dsimp only; rw [hQ2]; exact ⟨rfl, rfl⟩⟩
end
end Go.Proofs.YtnimcchalinihaaDoor
