/- SdReveals, where what it reads is of bulk at most 1048576: of every value and disclosures (any texts) the revealed payload is the document's, or the error; what is handed in stays. Condition: the listed tables hold what the program's text lays (the card ties them to the text). -/
import Derived.Test.YtjajcmedipjfhaaGreatDoorMm
import Derived.Test.YtjajcmedipjfhaaGreatDoorMv
import Derived.Test.YtjajcmedipjfhaaGreatDoorCards
import Derived.Test.YtjajcmedipjfhaaGreatDoorTie
import Derived.SevenTiedAt
namespace Go.Proofs.YtjajcmedipjfhaaGreatDoor
open Sg Go Go.ChangeShapes Go.WideShapes Go.RowKit Go.Lib
set_option maxRecDepth 100000
abbrev laid1 : List (String × DataW Unit) := [("unicode/utf8.acceptRanges", Rows.laid_unicode_utf8_acceptRanges), ("signet/sha.k256", Rows.laid_signet_sha_k256), ("signet/sha.k512", Rows.laid_signet_sha_k512), ("signet/sha.start256", Rows.laid_signet_sha_start256), ("signet/sha.start384", Rows.laid_signet_sha_start384), ("signet/sha.start512", Rows.laid_signet_sha_start512), ("signet/signetref4.k256", Rows.laid_signet_signetref4_k256), ("signet/signetref4.k512", Rows.laid_signet_signetref4_k512), ("signet/signetref4.start256", Rows.laid_signet_signetref4_start256), ("signet/signetref4.start384", Rows.laid_signet_signetref4_start384), ("signet/signetref4.start512", Rows.laid_signet_signetref4_start512), ("unicode/utf8.first", Rows.laid_unicode_utf8_first)]
theorem n_rk : Tryz.prog.globalNamed "signet/signetref4.k256" = some 9 := by kernel_rfl
theorem n_rg : Tryz.prog.globalNamed "signet/signetref4.start256" = some 8 := by kernel_rfl
theorem t_rk:(Tryz.prog.globals[9]?).map (·.type)=some 197:=by kernel_rfl
theorem t_rg:(Tryz.prog.globals[8]?).map (·.type)=some 156:=by kernel_rfl
theorem Zab {W:World} (h:laidMetH Tryz.prog laid1 W):Tabs W []∧ShT W []:=by
 rw [MakeChecks.laidMetH_plain _ _ _ (by kernel_rfl)] at h
 exact ⟨Zcw h (by simp) (by simp), ⟨Zdq h (by simp) (by simp), fun H => Z5G h (nm := "signet/signetref4.k256") (d := Rows.laid_signet_signetref4_k256) (by simp) n_rk t_rk Tryz.underlying197 Tryz.underlying155 c52 (by kernel_rfl) H,
  fun H => Z5G h (nm := "signet/signetref4.start256") (d := Rows.laid_signet_signetref4_start256) (by simp) n_rg t_rg Tryz.underlying156 Tryz.underlying155 c52 (by kernel_rfl) H⟩⟩
theorem Z76:Z8E Tryz.prog 3 Tryz.f3 (laidMetH Tryz.prog laid1) Rows.uptoSmall:=by
 intro H enc W base args ds p hval hA hz hk hL hsh
 have hval':∀ (j:Nat) t v,Tryz.f3.params[j]?=some t→args[j]?=some v→Value.okWide Tryz.prog W .any base t v:=hval
 rw [Tryz.params3] at hA hval' hz
 obtain ⟨v0,v1,d0,d1,p0,p1,rfl,rfl,rfl,h0,h1⟩:=trodAll_two hA
 obtain ⟨va,vc,v,ta,tc,ts,rfl,rfl,hRv,hRt,b1,b2,b3,b4⟩:=Za9 (hval' 0 22 _ rfl rfl) (hval' 1 23 _ rfl rfl) h0 h1 (Z9K hk)
 exact Z68 (Zab hL).1 (Zab hL).2 hRv hRt b1 b2 b3 b4
theorem Z4e (os:Os) (started:os.Started) (H:Type) (enc:TypeId × Value→H) (F:Stop.Interp) :
  ReturnsInHanded {} Tryz.checked os 3 .any ((Rows.OpenSpec.upto Rows.sdRevealsSpec).preRow enc Tryz.prog Tryz.f3 Rows.sdRevealsUptoRow.domain false Rows.sdRevealsUptoRow.laid) (((Rows.OpenSpec.upto Rows.sdRevealsSpec).at F).post enc Tryz.prog Tryz.f3 false true false false):=by
 obtain ⟨places,hx⟩:∃ places,DataW.whole enc Tryz.prog ((World.laidAll Tryz.prog os laid1).forCall (fun _ _=>0) ⟨#[],#[.slice none 0 0,.slice none 0 0],[]⟩).memory Tryz.f3.params.toList Rows.sdRevealsSpec.vars false (#[.slice none 0 0,.slice none 0 0]:Array Value).toList 8=some ([.nil,.nil],[],places):=⟨[],by kernel_rfl⟩
 exact Z3d (C:=Tryz.checked) H enc F own started (by kernel_rfl) Tryz.func3
  (Z2q (enc:=enc) (C:=Tryz.checked) false (World.laidAll Tryz.prog os laid1) #[.slice none 0 0,.slice none 0 0] (World.laidAll_os _ _ _) (World.shaped_of_ZipB (by kernel_rfl) (by kernel_rfl)) (by kernel_rfl)
   (OpenSpec.preRow_of_cond 8 hx (by kernel_rfl) (fun k hk=>by cases hk;kernel_rfl) (by kernel_rfl) (by rw [MakeChecks.laidMetH_plain _ _ _ (by kernel_rfl)];exact laidMet_laidAll _ (by kernel_rfl) (by kernel_rfl))))
  (by kernel_rfl) Tryz.underlying4 rfl (fun H ds h=>by
   match ds,h with
   | [_,_],_=>rfl) Zd1 (by kernel_rfl) Z76
theorem Z5r:Rows.SdRevealsUptoSaid :=
 OpenClaim.holds_of_cond 3 Tryz.f3 rfl rfl rfl rfl rfl rfl rfl ⟨rfl,rfl,rfl,rfl,rfl⟩ rfl rfl rfl rfl rfl (by kernel_rfl) Tryz.func3 (by kernel_rfl)
  (of_decide_eq_true (by kernel_rfl)) (by unfold Func.isWrapper;rw [if_neg (of_decide_eq_false (by kernel_rfl))];exact ⟨rfl,rfl⟩)
  (fun os started H enc _ F=>by rw [OpenClaim.pre_eq_preRow];exact Z4e os started H enc F)
theorem sdReveals_card:Rows.SdRevealsUptoCardSaid :=
 Claim7.holds_tied_plain_at .later [] [.data, .data, .data, .data, .data, .data, .data, .data, .data, .data, .data, .pinned] true (true, "54b2a3a159c0c20cd4fa73cde0e23f708d36cb738ba8b015cea260e63ce7ebae") true
  Z5r (fun _ h=>by cases h) (by kernel_rfl) (fun _ h=>by cases h) sdRevealsUpto_row_tie rfl ⟨rfl,rfl⟩ (by kernel_rfl) rfl
  (fun f fn hf hfn=>by
   obtain rfl : f = 3 := Option.some.inj ((show Tryz.prog.funcNamed "signet/signetlaw28.SdReveals" = some 3 by kernel_rfl).symm.trans hf) |>.symm
   obtain rfl:fn=Tryz.f3:=(Option.some.inj (Tryz.func3.symm.trans hfn)).symm
   exact ⟨by kernel_rfl,fun j t ht=>by
    rw [Tryz.params3] at ht
    have hm:t∈[22,23]:=by simpa using Array.mem_of_getElem? ht
    have hall:([22,23].all fun u=>!Tryz.prog.wantsStandIn u)=true:=by kernel_rfl
    exact (show Tryz.prog.wantsStandIn t=false by simpa using List.all_eq_true.1 hall t hm)⟩)
  (by kernel_rfl)
#print axioms sdReveals_card
end Go.Proofs.YtjajcmedipjfhaaGreatDoor
