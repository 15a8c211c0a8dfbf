/- GateNews, where what it reads is of bulk at most 1048576: of every policy and rule New's code is the document's, or there is a gate with an empty book; the policy is not kept. Condition: the listed tables hold what the program's text lays (the card ties them to the text). -/
import Derived.Test.YthomgjihagigcaaGreatDoorMo
import Derived.Test.YthomgjihagigcaaGreatDoorCards
import Derived.Test.YthomgjihagigcaaGreatDoorTie
import Derived.SevenTiedAt
namespace Go.Proofs.YthomgjihagigcaaGreatDoor
open Sg Go Go.ChangeShapes Go.WideShapes Go.RowKit Go.Lib
set_option maxRecDepth 100000
abbrev laid1 : List (String × DataW Unit) := [("unicode/utf8.acceptRanges", Rows.laid_unicode_utf8_acceptRanges), ("signet/rules.keywords", Rows.laid_signet_rules_keywords), ("signet/rules.operators", Rows.laid_signet_rules_operators), ("unicode/utf8.first", Rows.laid_unicode_utf8_first)]
theorem Z6o {W:World} (h:laidMetH Tryz.prog laid1 W):Tabs W []∧GtT W []:=by
 rw [MakeChecks.laidMetH_plain _ _ _ (by kernel_rfl)] at h
 exact ⟨Z7R h (by simp) (by simp),Z8y h (by simp) (by simp)⟩
theorem Z7i:Z5u Tryz.prog 3 Tryz.f3 (laidMetH Tryz.prog laid1) Rows.uptoSmall:=by
 intro H enc W base args ds p hval hA hz hk hL hsh
 have hval':∀ (j:Nat) t v,Tryz.f3.params[j]?=some t→args[j]?=some v→Value.okWide Tryz.prog W .any base t v:=hval
 rw [Tryz.params3] at hA hval' hz
 obtain ⟨v0,v1,d0,d1,p0,p1,rfl,rfl,rfl,⟨fu0,h0⟩,⟨fu1,h1⟩⟩:=trodAll_two hA
 obtain ⟨cs,rfl,-⟩:=okWide_struct Tryz.underlying24 (hval' 0 24 _ rfl rfl)
 obtain ⟨P,a1,a2,c1,c2,xs,ys,e1,e2,r1,r2⟩:=Z7e h0
 obtain ⟨s,rfl⟩:=okWide_string Tryz.underlying9 (hval' 1 9 _ rfl rfl)
 have hb:=Z6b hk
 simp only [Rows.uptoBulkAll] at hb
 dsimp only at e2
 have e4:cs=⟨poV P (.slice a1 xs.length c1) (.slice a2 ys.length c2)⟩:=by
  cases cs
  exact congrArg Array.mk e1
 subst e4
 rw [Z79 s]
 exact Z6t (Z6o hL).2 (Z6o hL).1 (r1 _) (r2 _) rfl rfl (by omega) (by omega)
abbrev args0:Array Value:=#[.agg #[.slice none 0 0,.string ⟨#[]⟩,.bool false,.string ⟨#[]⟩,.bool false,.string ⟨#[]⟩,.bool false,.int .i64 0,.slice none 0 0],.string ⟨#[]⟩]
theorem Z4B (os:Os) (started:os.Started) (H:Type) (enc:TypeId × Value→H) (F:Stop.Interp) :
  ReturnsInHanded {} Tryz.checked os 3 .any ((Rows.OpenSpec.upto Rows.gateNewsSpec).preRow enc Tryz.prog Tryz.f3 Rows.gateNewsUptoRow.domain false Rows.gateNewsUptoRow.laid) (((Rows.OpenSpec.upto Rows.gateNewsSpec).at F).post enc Tryz.prog Tryz.f3 false true false false):=by
 obtain ⟨places,hx⟩:∃ places,DataW.whole enc Tryz.prog ((World.laidAll Tryz.prog os laid1).forCall (fun _ _=>0) ⟨#[],args0,[]⟩).memory Tryz.f3.params.toList Rows.gateNewsSpec.vars false args0.toList 8=some ([.agg [.nil,.lit (.string []),.lit (.bool false),.lit (.string []),.lit (.bool false),.lit (.string []),.lit (.bool false),.lit (.int .i64 0),.nil],.lit (.string [])],[],places):=⟨[],by kernel_rfl⟩
 exact Z1L (C:=Tryz.checked) H enc F own started (by kernel_rfl) Tryz.func3
  (Z1c (enc:=enc) (C:=Tryz.checked) false (World.laidAll Tryz.prog os laid1) args0 (World.laidAll_os _ _ _) (World.shaped_of_ZipB (by kernel_rfl) (by kernel_rfl)) (by kernel_rfl)
   (OpenSpec.preRow_of_cond 8 hx (by kernel_rfl) (fun k hk=>by cases hk;kernel_rfl) (by kernel_rfl) (by rw [MakeChecks.laidMetH_plain _ _ _ (by kernel_rfl)];exact laidMet_laidAll _ (by kernel_rfl) (by kernel_rfl))))
  (by kernel_rfl) Tryz.underlying4 rfl (fun H ds h=>by
   match ds,h with
   | [_,_],_=>rfl) Z87 (by kernel_rfl) Z7i
theorem Z5L:Rows.GateNewsUptoSaid :=
 OpenClaim.holds_of_cond 3 Tryz.f3 rfl rfl rfl rfl rfl rfl rfl ⟨rfl,rfl,rfl,rfl,rfl⟩ rfl rfl rfl rfl rfl (by kernel_rfl) Tryz.func3 (by kernel_rfl)
  (of_decide_eq_true (by kernel_rfl)) (by unfold Func.isWrapper;rw [if_neg (of_decide_eq_false (by kernel_rfl))];exact ⟨rfl,rfl⟩)
  (fun os started H enc _ F=>by rw [OpenClaim.pre_eq_preRow];exact Z4B os started H enc F)
theorem gateNews_card:Rows.GateNewsUptoCardSaid :=
 Claim7.holds_tied_plain_at .later [] [.data, .widerDeep, .data, .pinned] true (true, "dcdf5c164d0cb976b62200352f4cc703478df1b42ff9d8d158a778fe16751b64") true
  Z5L (fun _ h=>by cases h) (by kernel_rfl) (fun _ h=>by cases h) gateNewsUpto_row_tie rfl ⟨rfl,rfl⟩ (by kernel_rfl) rfl
  (fun f fn hf hfn=>by
   obtain rfl : f = 3 := Option.some.inj ((show Tryz.prog.funcNamed "signet/signetlaw26.GateNews" = some 3 by kernel_rfl).symm.trans hf) |>.symm
   obtain rfl:fn=Tryz.f3:=(Option.some.inj (Tryz.func3.symm.trans hfn)).symm
   exact ⟨by kernel_rfl,fun j t ht=>by
    rw [Tryz.params3] at ht
    have hm:t∈[24,9]:=by simpa using Array.mem_of_getElem? ht
    have hall:([24,9].all fun u=>!Tryz.prog.wantsStandIn u)=true:=by kernel_rfl
    exact (show Tryz.prog.wantsStandIn t=false by simpa using List.all_eq_true.1 hall t hm)⟩)
  (by kernel_rfl)
#print axioms gateNews_card
end Go.Proofs.YthomgjihagigcaaGreatDoor
