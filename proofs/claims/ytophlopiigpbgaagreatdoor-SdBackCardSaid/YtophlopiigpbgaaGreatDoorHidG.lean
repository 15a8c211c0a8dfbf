/- SdBack: whatever is hidden of an object, and whichever of it disclosed with all around it: just that is revealed. Condition: the listed tables hold what the program's text lays (the card ties them to the text). -/
import Derived.Test.YtophlopiigpbgaaGreatDoorMp
import Derived.Test.YtophlopiigpbgaaGreatDoorCards
import Derived.Test.YtophlopiigpbgaaGreatDoorTie
import Derived.SevenTiedAt
set_option linter.unusedVariables false
set_option linter.unusedSimpArgs false
namespace Go.Proofs.YtophlopiigpbgaaGreatDoor
open Sg Go Go.ChangeShapes Go.WideShapes Go.RowKit Go.Lib
set_option maxRecDepth 100000
abbrev laid1 : List (String × DataW Unit) := [("math/bits.deBruijn32tab", Rows.laid_math_bits_deBruijn32tab), ("math/bits.deBruijn64tab", Rows.laid_math_bits_deBruijn64tab), ("internal/strconv.uint64pow10", Rows.laid_internal_strconv_uint64pow10), ("unicode/utf8.acceptRanges", Rows.laid_unicode_utf8_acceptRanges), ("signet/sha.k256", Rows.laid_signet_sha_k256), ("signet/sha.k512", Rows.laid_signet_sha_k512), ("signet/sha.start256", Rows.laid_signet_sha_start256), ("signet/sha.start384", Rows.laid_signet_sha_start384), ("signet/sha.start512", Rows.laid_signet_sha_start512), ("unicode/utf8.first", Rows.laid_unicode_utf8_first)]
theorem t_pow:(Tryz.prog.globals[11]?).map (·.type)=some 209:=by kernel_rfl
theorem Zbp:(Rows.laid_internal_strconv_uint64pow10:DataW Unit)=Lib.tabData .u64 Lib.pow10Tab:=by kernel_rfl
theorem ZdS {W : World} {ls : List (String × DataW Unit)} (h : laidMet Tryz.prog ls W) (m1 : ("internal/strconv.uint64pow10", Rows.laid_internal_strconv_uint64pow10) ∈ ls) : ItP W := by
 obtain ⟨ps,hl,-,-⟩:=h
 obtain ⟨g',t',cs,fuel,p,h1,h2,h3,h4⟩:=Z1Q hl m1
 obtain rfl:=Option.some.inj (pow10_named.symm.trans h1)
 obtain rfl:=Option.some.inj (t_pow.symm.trans h2)
 rw [Zbp] at h4
 unfold ItP Lib.TabIs
 rw [h3,←Lib.cells_of_tab Tryz.underlying209 Tryz.underlying159 (by kernel_rfl) (by kernel_rfl) h4]
theorem ZcW {W:World} (h:laidMetH Tryz.prog laid1 W):Tabs W []∧ShP W []∧ItP W:=by
 rw [MakeChecks.laidMetH_plain _ _ _ (by kernel_rfl)] at h
 exact ⟨ZcA h (by simp) (by simp),ZdE h (by simp) (by simp),ZdS h (by simp)⟩
theorem ZaN:Z8j Tryz.prog 4 Tryz.f4 (laidMetH Tryz.prog laid1):=by
 intro H enc W base args ds p hval hA hz hL hsh
 have hval':∀ (j:Nat) t v,Tryz.f4.params[j]?=some t→args[j]?=some v→Value.okWide Tryz.prog W .any base t v:=hval
 rw [Tryz.params4] at hA hval' hz
 obtain ⟨v0,v1,v2,d0,d1,d2,p0,p1,p2,rfl,rfl,rfl,h0,h1,h2⟩:=trodAll_three hA
 obtain ⟨s0,rfl,rfl,rfl,hs0⟩:=Go.ChangeMaps.open_string Tryz.underlying9 (hval' 0 9 _ rfl rfl) h0
 obtain ⟨ad,cp,ps,rfl,hle,hcp,_,hR⟩:=Z3W Tryz.underlying36 Tryz.underlying3 (by kernel_rfl) (hval' 1 36 _ rfl rfl) h1
 obtain ⟨n,rfl,rfl,rfl,hwn⟩:=open_int Tryz.underlying3 (hval' 2 3 _ rfl rfl) h2
 have hb:=sized_string hz (j:=0) (t:=9) rfl rfl
 have hb2:=Z7p hz (j:=1) (t:=36) rfl rfl Tryz.underlying36 (by rw [show Tryz.prog.bytesOf 3=8 by kernel_rfl];omega) hle hcp
 have hr:reachBytes=140737488351232:=rfl
 obtain ⟨g1,g2,g3⟩:=ZcW hL
 have hwn2 : -9223372036854775808≤n∧n≤9223372036854775807:=by
  simp only [Lit.wf,Bool.and_eq_true,decide_eq_true_eq] at hwn
  exact hwn
 rw [ZdH s0]
 exact ZaO g1 g2 g3 (by have hb':s0.data.toList.length≤reachBytes:=hb;rw [hr] at hb';unfold maxLen;omega) hR (by omega) hwn2
theorem Z6F (os:Os) (started:os.Started) (H:Type) (enc:TypeId × Value→H) :
  ReturnsInHanded {} Tryz.checked os 4 .any (fun w args=>(Rows.sdBackSpec.pre enc Tryz.prog Tryz.f4 [] false w args∧laidMetH Tryz.prog laid1 w)∧sizedMet enc Tryz.prog Tryz.f4 (OpenSpec.ofChange Rows.sdBackSpec) false w args)
   (Rows.sdBackSpec.post enc Tryz.prog Tryz.f4 false true false false) :=
 Z36 (C:=Tryz.checked) (X:=laidMetH Tryz.prog laid1) H enc (fun _ _ hh h=>h.of_heap hh) own started (by kernel_rfl) Tryz.func4
  (ChangeSpec.witness_shaped (enc:=enc) (C:=Tryz.checked) (os:=os) (X:=fun w _=>laidMetH Tryz.prog laid1 w) false (World.laidAll Tryz.prog os laid1) #[.string ⟨#[]⟩,.slice none 0 0,.int .i64 0] 8 (World.laidAll_os _ _ _)
   (World.shaped_of_ZipB (by kernel_rfl) (by kernel_rfl)) (by kernel_rfl) (by kernel_rfl) (by kernel_rfl)
   (by rw [MakeChecks.laidMetH_plain _ _ _ (by kernel_rfl)];exact laidMet_laidAll _ (by kernel_rfl) (by kernel_rfl)))
  (by kernel_rfl) Tryz.underlying4 rfl (fun H ds h=>by
   match ds,h with
   | [_,_,_],_=>rfl) Zd4 (by kernel_rfl) ZaN
theorem Z7q:Rows.SdBackSaid :=
 OpenClaim.holds_of_wide 4 Tryz.f4 rfl rfl rfl rfl rfl rfl rfl ⟨rfl,rfl,rfl,rfl,rfl⟩ rfl rfl rfl rfl rfl (by kernel_rfl) Tryz.func4 (by kernel_rfl)
  (of_decide_eq_true (by kernel_rfl)) (by unfold Func.isWrapper;rw [if_neg (of_decide_eq_false (by kernel_rfl))];exact ⟨rfl,rfl⟩)
  (fun os started H enc _=>Z6F os started H enc)
theorem sdBack_card:Rows.SdBackCardSaid :=
 Claim7.holds_tied_plain_at .later [] [.data, .data, .data, .data, .data, .data, .data, .data, .data, .pinned] true (true, "a49f42a70c8369c7b1670c978eafdee144a0ba6db5044f6a2472236454b9b90f") true
  Z7q (fun _ h=>by cases h) (by kernel_rfl) (fun _ h=>by cases h) sdBack_row_tie rfl ⟨rfl,rfl⟩ (by kernel_rfl) rfl
  (fun f fn hf hfn=>by
   obtain rfl : f = 4 := Option.some.inj ((show Tryz.prog.funcNamed "signet/signetlaw28.SdBack" = some 4 by kernel_rfl).symm.trans hf) |>.symm
   obtain rfl:fn=Tryz.f4:=(Option.some.inj (Tryz.func4.symm.trans hfn)).symm
   exact ⟨by kernel_rfl,fun j t ht=>by
    rw [Tryz.params4] at ht
    have hm:t∈[9,36,3]:=by simpa using Array.mem_of_getElem? ht
    have hall:([9,36,3].all fun u=>!Tryz.prog.wantsStandIn u)=true:=by kernel_rfl
    exact (show Tryz.prog.wantsStandIn t=false by simpa using List.all_eq_true.1 hall t hm)⟩)
  (by kernel_rfl)
#print axioms sdBack_card
end Go.Proofs.YtophlopiigpbgaaGreatDoor
