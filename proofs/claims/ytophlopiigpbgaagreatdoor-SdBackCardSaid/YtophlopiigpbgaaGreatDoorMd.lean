/- Texts put together by a program: Rune JsnB JsnC JsnD JsnK JsnE. -/
import Derived.Test.YtophlopiigpbgaaGreatDoorMb
import Derived.Test.YtophlopiigpbgaaGreatDoorMc
import Derived.Shelf.Utf8.AppendRunePlain
import Derived.Shelf.Unicode.DecodeAny
import Derived.Test.YtophlopiigpbgaaGreatDoorProg
set_option linter.unusedVariables false
set_option linter.unusedSimpArgs false
/- Rules of runes (32 bits with a sign) and of single bytes; worlds that have grown alone. -/
namespace Sg
open Go Go.RowKit
section
variable {q:Mode} {c:Ctx} {dr:Bool} {ds:List Deferred} {H:List Res} {e:Env} {ops:Array Oper} {l:List Oper} {κ:List Res→Env→Prop} {ty:TypeId} {pos:String} {aft:Array Edge}
theorem T.raddR {x y:Operand} {d:Tmp} {t u:TypeId} {m n:Int} (hx:ev e x=some (.int .i32 m)) (hy:ev e y=some (.int .i32 n)) (h : -2147483648≤m+n∧m+n≤2147483647) (hlt:Nat.blt d c.fn.ntmps=true) (hk:Sr q c ds H ops l κ ((d,.int .i32 (m+n))::e)) :
  Sr q c ds H ops (⟨some d,.binOp .add t x y u,ty,pos,aft,none⟩::l) κ e:=Sr.p (Pu.add hx hy (IntWalk.i32_in _ h)) rfl hlt rfl hk
theorem T.rsubR {x y:Operand} {d:Tmp} {t u:TypeId} {m n:Int} (hx:ev e x=some (.int .i32 m)) (hy:ev e y=some (.int .i32 n)) (h : -2147483648≤m - n∧m - n≤2147483647) (hlt:Nat.blt d c.fn.ntmps=true) (hk:Sr q c ds H ops l κ ((d,.int .i32 (m - n))::e)) :
  Sr q c ds H ops (⟨some d,.binOp .sub t x y u,ty,pos,aft,none⟩::l) κ e:=Sr.p (Pu.sub hx hy (IntWalk.i32_in _ h)) rfl hlt rfl hk
theorem ZdP {m n:Nat} (hm:m < 2147483648) (hn:n < 2147483648):IntKind.i32.wrap ((BitVec.ofInt IntKind.i32.bits (m:Int)|||BitVec.ofInt IntKind.i32.bits (n:Int)).toNat:Int)=((m|||n:Nat):Int):=by
 have h1:(BitVec.ofInt 32 (m:Int)).toNat=m:=Zi (Nat.lt_of_lt_of_le hm (by decide))
 have h2:(BitVec.ofInt 32 (n:Int)).toNat=n:=Zi (Nat.lt_of_lt_of_le hn (by decide))
 have h3:m|||n < 2 ^ 31:=Nat.or_lt_two_pow (by omega) (by omega)
 show IntKind.i32.wrap ((BitVec.ofInt 32 (m:Int)|||BitVec.ofInt 32 (n:Int)).toNat:Int)=_
 rw [BitVec.toNat_or,h1,h2]
 exact IntWalk.i32_in _ (by omega)
theorem ZcI {m n:Nat} (hm:m*2 ^ n < 2147483648) (hn:n≤32):IntKind.i32.wrap ((m:Int)*2 ^ (min (n:Int).toNat IntKind.i32.bits))=((m*2 ^ n:Nat):Int):=by
 have h1:min (n:Int).toNat IntKind.i32.bits=n:=by show min (n:Int).toNat 32=n;omega
 rw [h1,show ((m:Int)*2 ^ n)=((m*2 ^ n:Nat):Int) by push_cast;rfl]
 exact IntWalk.i32_in _ (by omega)
theorem ZcG {m n:Nat} (hn:n≤32):(m:Int).fdiv (2 ^ (min (n:Int).toNat IntKind.i32.bits))=((m / 2 ^ n:Nat):Int):=by
 have h1:min (n:Int).toNat IntKind.i32.bits=n:=by show min (n:Int).toNat 32=n;omega
 rw [h1,Int.fdiv_eq_ediv_of_nonneg _ (by have:=Int.pow_pos (n:=(2:Int)) (m:=n) (by decide);omega)]
 push_cast
 rfl
theorem T.ror {x y:Operand} {d:Tmp} {t u:TypeId} {m n:Nat} (hx:ev e x=some (.int .i32 (m:Int))) (hy:ev e y=some (.int .i32 (n:Int))) (hm:m < 2147483648) (hn:n < 2147483648) (hlt:Nat.blt d c.fn.ntmps=true) (hk:Sr q c ds H ops l κ ((d,.int .i32 ((m|||n:Nat):Int))::e)) :
  Sr q c ds H ops (⟨some d,.binOp .or t x y u,ty,pos,aft,none⟩::l) κ e:=Sr.p (Pu.or hx hy (ZdP hm hn)) rfl hlt rfl hk
theorem T.rshl {x y:Operand} {d:Tmp} {t u:TypeId} {m:Nat} (n:Nat) {kd':IntKind} (hx:ev e x=some (.int .i32 (m:Int))) (hy:ev e y=some (.int kd' (n:Int))) (hm:m*2 ^ n < 2147483648∧n≤32) (hlt:Nat.blt d c.fn.ntmps=true) (hk:Sr q c ds H ops l κ ((d,.int .i32 ((m*2 ^ n:Nat):Int))::e)) :
  Sr q c ds H ops (⟨some d,.binOp .shl t x y u,ty,pos,aft,none⟩::l) κ e:=Sr.p (Pu.shl hx hy (Int.natCast_nonneg n) (ZcI hm.1 hm.2)) rfl hlt rfl hk
theorem Zbb {m:Int} {n:Nat} (hm : -2147483648≤m*2 ^ n∧m*2 ^ n≤2147483647∧n≤32):IntKind.i32.wrap (m*2 ^ (min (n:Int).toNat IntKind.i32.bits))=m*2 ^ n:=by
 have h1:min (n:Int).toNat IntKind.i32.bits=n:=by show min (n:Int).toNat 32=n;omega
 rw [h1]
 exact IntWalk.i32_in _ ⟨hm.1,hm.2.1⟩
theorem T.rshlZ {x y:Operand} {d:Tmp} {t u:TypeId} {m:Int} (n:Nat) {kd':IntKind} (hx:ev e x=some (.int .i32 m)) (hy:ev e y=some (.int kd' (n:Int))) (hm : -2147483648≤m*2 ^ n∧m*2 ^ n≤2147483647∧n≤32) (hlt:Nat.blt d c.fn.ntmps=true) (hk:Sr q c ds H ops l κ ((d,.int .i32 (m*2 ^ n))::e)) :
  Sr q c ds H ops (⟨some d,.binOp .shl t x y u,ty,pos,aft,none⟩::l) κ e:=Sr.p (Pu.shl hx hy (Int.natCast_nonneg n) (Zbb hm)) rfl hlt rfl hk
theorem T.rshr {x y:Operand} {d:Tmp} {t u:TypeId} {m:Nat} (n:Nat) {kd':IntKind} (hx:ev e x=some (.int .i32 (m:Int))) (hy:ev e y=some (.int kd' (n:Int))) (hn:n≤32) (hlt:Nat.blt d c.fn.ntmps=true) (hk:Sr q c ds H ops l κ ((d,.int .i32 ((m / 2 ^ n:Nat):Int))::e)) :
  Sr q c ds H ops (⟨some d,.binOp .shr t x y u,ty,pos,aft,none⟩::l) κ e:=Sr.p (Pu.shr hx hy (Int.natCast_nonneg n) (ZcG hn)) rfl hlt rfl hk
theorem T.convRB {x:Operand} {d:Tmp} {s t:TypeId} {m:Nat} {dd:TypeDesc} [HU c.P s dd] [HU c.P t (.int .u8)] (hx:ev e x=some (.int .i32 (m:Int))) (hlt:Nat.blt d c.fn.ntmps=true) (hk:Sr q c ds H ops l κ ((d,.int .u8 ((UInt8.ofNat m).toNat:Int))::e)) :
  Sr q c ds H ops (⟨some d,.convert s t x,ty,pos,aft,none⟩::l) κ e:=Sr.p (Pu.conv (d:=dd) hx (by rw [Z5c,UInt8.toNat_ofNat'];omega)) rfl hlt rfl hk
theorem T.band {x y:Operand} {d:Tmp} {t u:TypeId} {a:UInt8} (b:UInt8) (hx:ev e x=some (.int .u8 (a.toNat:Int))) (hy:ev e y=some (.int .u8 (b.toNat:Int))) (hlt:Nat.blt d c.fn.ntmps=true) (hk:Sr q c ds H ops l κ ((d,.int .u8 ((a&&&b).toNat:Int))::e)) :
  Sr q c ds H ops (⟨some d,.binOp .and t x y u,ty,pos,aft,none⟩::l) κ e:=Sr.p (Pu.and hx hy (by rw [Zcp a.toNat_lt b.toNat_lt,UInt8.toNat_and])) rfl hlt rfl hk
theorem T.bor {x y:Operand} {d:Tmp} {t u:TypeId} (a:UInt8) {b:UInt8} (hx:ev e x=some (.int .u8 (a.toNat:Int))) (hy:ev e y=some (.int .u8 (b.toNat:Int))) (hlt:Nat.blt d c.fn.ntmps=true) (hk:Sr q c ds H ops l κ ((d,.int .u8 ((a|||b).toNat:Int))::e)) :
  Sr q c ds H ops (⟨some d,.binOp .or t x y u,ty,pos,aft,none⟩::l) κ e:=Sr.p (Pu.or hx hy (by rw [ZdM a.toNat_lt b.toNat_lt,UInt8.toNat_or])) rfl hlt rfl hk
theorem T.quoU64 {x y:Operand} {d:Tmp} {t u:TypeId} {m:Nat} (n:Nat) (hx:ev e x=some (.int .u64 (m:Int))) (hy:ev e y=some (.int .u64 (n:Int))) (h0:0 < n∧m < 18446744073709551616) (hlt:Nat.blt d c.fn.ntmps=true) (hk:Sr q c ds H ops l κ ((d,.int .u64 ((m / n:Nat):Int))::e)) :
  Sr q c ds H ops (⟨some d,.binOp .quo t x y u,ty,pos,aft,none⟩::l) κ e:=Sr.p (Pu.quo hx hy (by omega) (by
   have:=Nat.div_le_self m n
   rw [←Int.ofNat_tdiv]
   generalize m / n=k at *
   exact IntWalk.u64_in _ (by omega))) rfl hlt rfl hk
theorem T.negU64 {x:Operand} {d:Tmp} {t:TypeId} {m:Nat} (hx:ev e x=some (.int .u64 (m:Int))) (hlt:Nat.blt d c.fn.ntmps=true) (hk:Sr q c ds H ops l κ ((d,.int .u64 ((0 - (m:Int)) % 18446744073709551616))::e)) :
  Sr q c ds H ops (⟨some d,.unOp .neg t x,ty,pos,aft,none⟩::l) κ e:=Sr.p (Pu.neg hx (Z7t _)) rfl hlt rfl hk
theorem T.convNeg {x:Operand} {d:Tmp} {s t:TypeId} {m:Nat} {dd:TypeDesc} [HU c.P s dd] [HU c.P t (.int .i64)] (hx:ev e x=some (.int .u64 ((0 - (m:Int)) % 18446744073709551616))) (hm:m≤9223372036854775808) (hlt:Nat.blt d c.fn.ntmps=true) (hk:Sr q c ds H ops l κ ((d,.int .i64 (-(m:Int)))::e)) :
  Sr q c ds H ops (⟨some d,.convert s t x,ty,pos,aft,none⟩::l) κ e:=Sr.p (Pu.conv (d:=dd) hx (by rw [IntKind.wrap_i64];omega)) rfl hlt rfl hk
theorem T.ssliceL {d:Tmp} {x lo:Operand} {kd:IntKind} {i:Nat} {t:TypeId} {bs:List UInt8} [HU c.P t .string] (hx:ev e x=some (sV bs)) (hl:ev e lo=some (.int kd (i:Int))) (h0:i≤bs.length) (hlt:Nat.blt d c.fn.ntmps=true)
  (hk:Sr q c ds H ops l κ ((d,sV (bs.drop i))::e)):Sr q c ds H ops (⟨some d,.slice t x (some lo) none none,ty,pos,aft,none⟩::l) κ e :=
 Sr.p (fun w a _ ha=>by
  have hr:=run_slice_string_l (P:=c.P) (w:=w) (t:=t) (s:=ByteArray.mk bs.toArray) (HU.h (P:=c.P) (t:=t)) kd (i:Int) (by omega) (by show (i:Int)≤(bs.length:Nat);omega)
  have hex:(ByteArray.mk bs.toArray).extract (i:Int).toNat (ByteArray.mk bs.toArray).size=ByteArray.mk (bs.drop i).toArray:=by
   rw [Int.toNat_natCast]
   apply ByteArray.ext
   rw [ByteArray.data_extract]
   apply Array.ext'
   have:(ByteArray.mk bs.toArray).size=bs.length:=rfl
   simp [List.extract,this]
   exact List.take_of_length_le (by rw [List.length_drop];omega)
  rw [hex] at hr
  simp [execOp,ha.ev hx,ha.ev hl,Instr.sliceAt,Z9 (d:=.string),hr]) rfl hlt rfl hk
theorem T.ssliceH {d:Tmp} {x hi:Operand} {kd:IntKind} {j:Nat} {t:TypeId} {bs:List UInt8} [HU c.P t .string] (hx:ev e x=some (sV bs)) (hh:ev e hi=some (.int kd (j:Int))) (h0:j≤bs.length) (hlt:Nat.blt d c.fn.ntmps=true)
  (hk:Sr q c ds H ops l κ ((d,sV (bs.take j))::e)):Sr q c ds H ops (⟨some d,.slice t x none (some hi) none,ty,pos,aft,none⟩::l) κ e :=
 Sr.p (fun w a _ ha=>by
  have hr:=run_slice_string_h (P:=c.P) (w:=w) (t:=t) (s:=ByteArray.mk bs.toArray) (HU.h (P:=c.P) (t:=t)) kd (j:Int) (by omega) (by show (j:Int)≤(bs.length:Nat);omega)
  have hex:(ByteArray.mk bs.toArray).extract 0 (j:Int).toNat=ByteArray.mk (bs.take j).toArray:=by
   rw [Int.toNat_natCast]
   apply ByteArray.ext
   rw [ByteArray.data_extract]
   apply Array.ext'
   simp [List.extract]
  rw [hex] at hr
  simp [execOp,ha.ev hx,ha.ev hh,Instr.sliceAt,Z9 (d:=.string),hr]) rfl hlt rfl hk
theorem T.loadG {x:Operand} {d b i:Nat} {t:TypeId} {dd:TypeDesc} [HU c.P t dd] {vs:List Value} {v:Value} (hx:ev e x=some (.pointer (some ⟨b,i,none⟩))) (hd:plain dd=true) (hr:Rd c.F c.M H (some ⟨b,0,none⟩) vs) (hi:vs[i]?=some v) (hlt:Nat.blt d c.fn.ntmps=true)
  (hk:Sr q c ds H ops l κ ((d,v)::e)):Sr q c ds H ops (⟨some d,.load t x,ty,pos,aft,none⟩::l) κ e :=
 Sr.p (Pu.loadE (ad:=some ⟨b,0,none⟩) (j:=i) (d:=dd) (by rw [hx];simp [eaddr,Zo]) hd hi) rfl hlt rfl hk
theorem T.loadGN {x:Operand} {d b i:Nat} {t:TypeId} {dd:TypeDesc} [HU c.P t dd] {z:Value} {n by_:Nat} [HI c.P t z n by_] {vs us:List Value} (hx:ev e x=some (.pointer (some ⟨b,i,none⟩))) (hd:plain dd=false) (hr:Rd c.F c.M H (some ⟨b,0,none⟩) vs) (hn:i+n≤vs.length) (h0:0 < n) (hu:(vs.drop i).take n=us) (hlt:Nat.blt d c.fn.ntmps=true)
  (hk:Sr q c ds H ops l κ ((d,.agg ⟨us⟩)::e)):Sr q c ds H ops (⟨some d,.load t x,ty,pos,aft,none⟩::l) κ e:=by
 have:=Pu.loadEN (c:=c) (H:=H) (e:=e) (x:=x) (dst:=some d) (ty:=ty) (pos:=pos) (aft:=aft) (g:=none) (t:=t) (dd:=dd) (z:=z) (by_:=by_) (n:=n) (vs:=vs) (ad:=some ⟨b,0,none⟩) (j:=i) hd (by rw [hx];simp [eaddr,Zo]) hr h0 hn
 rw [hu] at this
 exact Sr.p this rfl hlt rfl hk
theorem T.aidx {x y:Operand} {d:Tmp} {t E:TypeId} {n i sz:Nat} {kd:IntKind} {z:Value} {by_:Nat} {dd:TypeDesc} [HU c.P t (.array n E)] [HU c.P E dd] [HI c.P E z sz by_] {vs us:List Value} (hx:ev e x=some (.agg ⟨vs⟩)) (hy:ev e y=some (.int kd (Int.ofNat i))) (hd:plain dd=false) (hi:i < n) (hv:(vs.drop (i*sz)).take sz=us) (hlt:Nat.blt d c.fn.ntmps=true)
  (hk:Sr q c ds H ops l κ ((d,.agg ⟨us⟩)::e)):Sr q c ds H ops (⟨some d,.index t x y,ty,pos,aft,none⟩::l) κ e :=
 Sr.p (fun w a _ ha=>by
  have hy':ev e y=some (.int kd (i:Int)):=hy
  simp [execOp,ha.ev hx,ha.ev hy',Instr.index,asIntOf,Z9 (d:=.array n E),ZO (z:=z) (sz:=sz) (b:=by_),part,Z2E (d:=dd),hd,hi]
  exact hv) rfl hlt rfl hk
end
theorem and63 (n:Nat):UInt8.ofNat n&&&63=UInt8.ofNat (n % 64):=by
 apply UInt8.toNat_inj.1
 rw [UInt8.toNat_and,UInt8.toNat_ofNat',UInt8.toNat_ofNat',show (63:UInt8).toNat=2 ^ 6 - 1 from rfl,Nat.and_two_pow_sub_one_eq_mod]
 omega
theorem ZcU:∀ k:Fin 64,(128:UInt8)|||UInt8.ofNat k.val=UInt8.ofNat (128+k.val):=by decide
theorem ZdO:∀ k:Fin 32,(192:UInt8)|||UInt8.ofNat k.val=UInt8.ofNat (192+k.val):=by decide
theorem Zbr:∀ k:Fin 16,(224:UInt8)|||UInt8.ofNat k.val=UInt8.ofNat (224+k.val):=by decide
theorem ZcV:∀ k:Fin 8,(240:UInt8)|||UInt8.ofNat k.val=UInt8.ofNat (240+k.val):=by decide
theorem Z35 (n:Nat):(128:UInt8)|||(UInt8.ofNat n&&&63)=UInt8.ofNat (128+n % 64):=by
 rw [and63]
 exact ZcU ⟨n % 64,Nat.mod_lt _ (by decide)⟩
theorem ZaZ {u:Nat} (h1:128≤u) (h2:u < 2048):[(192:UInt8)|||UInt8.ofNat (u / 2 ^ 6),128|||(UInt8.ofNat u&&&63)]=utfL u:=by
 unfold utfL
 rw [if_neg (by omega),if_pos h2,Z35,ZdO ⟨u / 2 ^ 6,by omega⟩]
theorem Z8p {u:Nat} (h1:2048≤u) (h2:u < 65536):[(224:UInt8)|||UInt8.ofNat (u / 2 ^ 12),128|||(UInt8.ofNat (u / 2 ^ 6)&&&63),128|||(UInt8.ofNat u&&&63)]=utfL u:=by
 unfold utfL
 rw [if_neg (by omega),if_neg (by omega),if_pos h2,Z35,Z35,Zbr ⟨u / 2 ^ 12,by omega⟩]
theorem Z9n {u:Nat} (h1:65536≤u) (h2:u < 1114112):[(240:UInt8)|||UInt8.ofNat (u / 2 ^ 18),128|||(UInt8.ofNat (u / 2 ^ 12)&&&63),128|||(UInt8.ofNat (u / 2 ^ 6)&&&63),128|||(UInt8.ofNat u&&&63)]=utfL u:=by
 unfold utfL
 rw [if_neg (by omega),if_neg (by omega),if_neg (by omega),Z35,Z35,Z35,ZcV ⟨u / 2 ^ 18,by omega⟩]
theorem Zb0 {u:Nat} (h:u < 128):[UInt8.ofNat u]=utfL u:=by
 unfold utfL
 rw [if_pos h]
theorem St.below {F:World} {M:List Nat} {w w':World} {H:List Res} (h:St F M w H) (hb:Below w.heap.size w w'):St F M w' H:=by
 have hlt:∀ q∈H,∀ b∈q.foot,b < w.heap.size:=fun q hq=>Res.foot_lt (h.res q hq)
 exact ⟨hb.os.trans h.os,hb.tape.trans h.tape,hb.output.trans h.output,Nat.le_trans h.size hb.size,fun j hj hm=>by rw [hb.block j (Nat.lt_of_lt_of_le hj h.size),h.keep j hj hm],h.own,h.nd,fun r hr=>Res.holds_of_heap (h.res r hr) fun b hb'=>hb.block b (hlt r hr b hb')⟩
end Sg
/- The walks of the program's reader of JSON: escapes, sequences, runes appended. -/
namespace Go.Proofs.YtophlopiigpbgaaGreatDoor
open Sg Go.IntWalk
set_option maxRecDepth 100000
set_option maxHeartbeats 2000000
theorem _root_.Sg.Y4 {P R:Prop} (k:R) (h:Sg.Kp R→P:=by intro k;(first|(apply T.sadd;apply rfl;apply rfl;(first|omega|(simp only [List.length_append,List.length_cons,List.length_nil];omega));apply rfl)|(apply T.convBU64;apply rfl;apply rfl)|(apply T.negU64;apply rfl;apply rfl)|(apply T.ssliceL;apply rfl;apply rfl;omega;apply rfl)|(apply T.aidx;(iterate 3 apply rfl);decide;apply rfl;apply rfl)|(apply T.loadE;apply rfl;apply rfl;infer_instance;apply rfl;apply rfl)|(apply T.convM;apply rfl;apply rfl)|((with_reducible apply T.rshl 4);apply rfl;apply rfl;omega;apply rfl)|(apply T.ror;apply rfl;apply rfl;omega;omega;apply rfl)|(apply T.convI32;apply rfl;omega;apply rfl)|(apply T.raddR;apply rfl;apply rfl;omega;apply rfl)|((with_reducible apply T.rshr 6);apply rfl;apply rfl;omega;apply rfl)|((with_reducible apply T.rshr 12);apply rfl;apply rfl;omega;apply rfl)|((with_reducible apply T.rshr 18);apply rfl;apply rfl;omega;apply rfl)|(apply T.convRB;apply rfl;apply rfl)|((with_reducible apply T.band 63);(iterate 3 apply rfl))|((with_reducible apply T.bor 240);(iterate 3 apply rfl))|((with_reducible apply T.bor 224);(iterate 3 apply rfl))|((with_reducible apply T.bor 192);(iterate 3 apply rfl))|((with_reducible apply T.bor 128);(iterate 3 apply rfl))|(apply T.ixN;apply rfl;apply rfl;infer_instance;omega;(first|omega|(simp only [List.length_map];omega)|(simp;omega));apply rfl)|(apply T.convU32;apply rfl;omega;apply rfl)|(apply T.mapLook;apply rfl;apply rfl;infer_instance;(first|assumption|(simp only [maxLen];omega)|omega);apply rfl)|(apply T.seql;(iterate 3 apply rfl))|(apply T.sneq;(iterate 3 apply rfl))|(apply T.slen;apply rfl;apply rfl)|(apply T.sidx;apply rfl;apply rfl;omega;apply rfl)|(apply T.loadS;apply rfl;infer_instance;(first|omega|(simp only [List.length_map];omega));apply rfl)|(apply T.convS;apply rfl;infer_instance;(first|rfl|assumption|exact beN_len _ _|(simp;done)|(simp;omega));apply rfl)|(apply T.mv;apply rfl;apply rfl)|(apply T.asn;apply rfl;apply rfl)|(apply T.len;apply rfl;apply rfl)|(apply T.nilCheck;apply rfl;apply rfl)|(apply T.fieldAddrZ;apply rfl;apply rfl)|(apply T.load;apply rfl;apply rfl;infer_instance;apply rfl;apply rfl)|(apply T.lss;(iterate 3 apply rfl))|(apply T.leq;(iterate 3 apply rfl))|(apply T.gtr;(iterate 3 apply rfl))|(apply T.geq;(iterate 3 apply rfl))|(apply T.eql;(iterate 3 apply rfl))|(apply T.neq;(iterate 3 apply rfl))|(apply T.addI;apply rfl;apply rfl;omega;apply rfl)|(apply T.subI;apply rfl;apply rfl;omega;apply rfl)|(apply T.extract;(iterate 3 apply rfl))|(apply T.ixC;apply rfl;infer_instance;omega;(first|omega|(simp only [List.length_map];omega)|(simp;omega));apply rfl)|(apply T.ixK;apply rfl;apply rfl;infer_instance;decide;decide;apply rfl)|(apply T.ixF;apply rfl;apply rfl;infer_instance;exact (fun _=>rfl);apply rfl;omega;omega;apply rfl)|(apply T.fieldAddrF;apply rfl;infer_instance;exact (fun _=>rfl);apply rfl;omega;apply rfl)|(apply T.ixAZ;apply rfl;apply rfl;omega;apply rfl)|(apply T.ixA;apply rfl;apply rfl;omega;apply rfl)|(apply T.loadF;apply rfl;apply rfl;infer_instance;exact (fun _=>rfl);apply rfl;exact Zf (by omega);apply rfl;apply rfl)|(apply T.loadFN;apply rfl;apply rfl;infer_instance;exact (fun _=>rfl);apply rfl;exact Zf (by omega);apply rfl)|(apply T.loadB;apply rfl;infer_instance;omega;apply rfl)|(apply T.loadI;apply rfl;infer_instance;omega;apply rfl)|(apply T.loadNat;apply rfl;infer_instance;(first|omega|(simp only [List.length_map];omega)|(simp;omega));apply rfl)|(apply T.notB;apply rfl;apply rfl)|(apply T.pickT;(iterate 3 apply rfl))|(apply T.pickF;(iterate 3 apply rfl))|(apply T.convI64;apply rfl;omega;apply rfl)|(apply T.convU64;apply rfl;omega;apply rfl)|(apply T.remI64;apply rfl;apply rfl;omega;apply rfl)|(apply T.buildL;(iterate 3 apply rfl))|(apply T.buildAL;(iterate 3 apply rfl))|(apply T.loadW;apply rfl;apply rfl;infer_instance;(first|rfl|(simp only [List.length_append,List.length_map,List.length_set,List.length_replicate,List.length_cons,List.length_nil];first|done|omega));apply rfl)|(apply T.sliceLK;apply rfl;apply rfl;omega;apply rfl)|(apply T.storeW;apply rfl;apply rfl;infer_instance;(first|rfl|(simp only [List.length_append,List.length_map,List.length_set,List.length_replicate,List.length_cons,List.length_nil];first|done|omega));(first|rfl|(simp only [List.length_append,List.length_map,List.length_set,List.length_replicate,List.length_cons,List.length_nil];first|done|omega));(first|rfl|(repeat' first|apply all_nV|apply Z11|apply all_iV|rfl|apply all_app)))|(apply T.store;apply rfl;apply rfl;infer_instance;(first|decide|(simp;omega)|simp);apply rfl)|(apply S.deferM;apply rfl;apply rfl)|(with_reducible refine Sr.nil ?_)|(with_reducible refine S.seq ?_)|(with_reducible refine S.block ?_)|(with_reducible refine S.reg ?_)|(with_reducible refine S.skip ?_)|(with_reducible refine S.inBlock ?_)|(apply S.exit;apply rfl)|(apply S.quiet;apply rfl;kernel_rfl)|(apply T.ungV;apply rfl;(first|with_reducible rfl|decide))|(apply T.skip;apply rfl;(first|with_reducible rfl|decide);apply rfl)|(apply T.skipU;apply rfl;apply rfl)|(apply S.condTV;apply rfl;(first|with_reducible rfl|decide))|(apply S.condFV;apply rfl;(first|with_reducible rfl|decide))|(apply T.retW;apply rfl)|(apply T.doneW;apply rfl)|(with_reducible apply T.ofRet)|(apply T.retC;apply rfl;((repeat' first|apply RV.nil|(apply RV.tmp;apply rfl)|(apply RV.cellW;apply rfl;apply rfl;infer_instance;(first|rfl|(simp only [List.length_append,List.length_map,List.length_set,List.length_replicate,List.length_cons,List.length_nil];first|done|omega)))|(apply RV.cellP;apply rfl;apply rfl;infer_instance;apply rfl)));apply rfl)|(apply SA.en;apply rfl;apply rfl;kernel_rfl)|(apply S.condQ;apply rfl;intro _;rotate_left;intro _;exfalso;(first|omega|with_reducible contradiction))|(apply S.condQ;apply rfl;intro _;exfalso;(first|omega|with_reducible contradiction);intro _)|(apply T.gcase;apply rfl;apply rfl;intro _;rotate_left;intro _;exfalso;(first|omega|with_reducible contradiction))|(apply T.gcase;apply rfl;apply rfl;intro _;exfalso;(first|omega|with_reducible contradiction);intro _)|fail);exact k.h):P:=h ⟨k⟩
theorem Z4D {F:World} {M:List Nat} {H:List Res} {ad:Option Addr} {n cp u:Nat} {xs:List UInt8} (hn:n≤1000000000) (h1:128≤u) (h2:u < 1114112) (h3:u < 55296∨57343 < u) :
  Meets Tryz.prog 147 [.slice ad n cp,.int .i32 u] F M (.row ad cp 5 1 n (xs.map bV)::H) (fun e H'=>∃ ad' cp' m,e=.returned (.slice ad' m cp')∧H'=.row ad' cp' 5 1 m ((xs++utfL u).map bV)::H∧m=n+(utfL u).length):=by
 refine Meets.enter Tryz.func147 rfl rfl ?_
 by_cases c2:u < 2048
 ·rw [←ZaZ h1 c2]
  repeat' (first|(apply T.append2;apply rfl;apply rfl;infer_instance;apply rfl;(constructor<;>omega);apply rfl;intro na nc)|(apply T.bs;(iterate 6 apply rfl);intro nb)|refine Sg.Y4 ?_|(apply S.condQ;apply rfl;all_goals intro _)|fail)
  exact ⟨_,PSub.refl _,na,nc,_,rfl,rfl,rfl⟩
 by_cases c3:u < 65536
 ·rw [←Z8p (by omega) c3]
  repeat' (first|(apply T.append3;apply rfl;apply rfl;infer_instance;apply rfl;(constructor<;>omega);apply rfl;intro na nc)|(apply T.bs;(iterate 6 apply rfl);intro nb)|refine Sg.Y4 ?_|(apply S.condQ;apply rfl;all_goals intro _)|(apply T.gcase;apply rfl;apply rfl;all_goals intro _)|fail)
  all_goals exact ⟨_,PSub.refl _,na,nc,_,rfl,rfl,rfl⟩
 ·rw [←Z9n (by omega) h2]
  repeat' (first|(apply T.append4;apply rfl;apply rfl;infer_instance;apply rfl;(constructor<;>omega);apply rfl;intro na nc)|(apply T.bs;(iterate 6 apply rfl);intro nb)|refine Sg.Y4 ?_|(apply S.condQ;apply rfl;all_goals intro _)|(apply T.gcase;apply rfl;apply rfl;all_goals intro _)|fail)
  all_goals exact ⟨_,PSub.refl _,na,nc,_,rfl,rfl,rfl⟩
theorem Z4x {F:World} {M:List Nat} {H:List Res} {ad:Option Addr} {n cp u:Nat} {xs:List UInt8} (hn:n≤1000000000) (h2:u < 1114112) (h3:u < 55296∨57343 < u) :
  Meets Tryz.prog 123 [.slice ad n cp,.int .i32 u] F M (.row ad cp 5 1 n (xs.map bV)::H) (fun e H'=>∃ ad' cp' m,e=.returned (.slice ad' m cp')∧H'=.row ad' cp' 5 1 m ((xs++utfL u).map bV)::H∧m=n+(utfL u).length):=by
 refine Meets.enter Tryz.func123 rfl rfl ?_
 by_cases c1:u < 128
 ·rw [←Zb0 c1]
  repeat' (first|(apply T.bs;(iterate 6 apply rfl);intro nb)|(apply T.appendB;apply rfl;apply rfl;infer_instance;apply rfl;(constructor<;>omega);apply rfl;intro na nc)|refine Sg.Y4 ?_|(apply S.condQ;apply rfl;all_goals intro _)|fail)
  exact ⟨_,PSub.refl _,na,nc,_,rfl,rfl,rfl⟩
 ·repeat' (first|refine Sg.Y3 ?_|(apply S.condQ;apply rfl;all_goals intro _)|fail)
  refine T.call rfl rfl (Z4D hn (by omega) h2 h3) ?_
  rintro _ _ ⟨a1,c1,m,rfl,rfl,rfl⟩
  repeat' (first|refine Sg.Y2 ?_|fail)
  exact ⟨_,PSub.refl _,a1,c1,_,rfl,rfl,rfl⟩
def hexV (c:UInt8):Value:=match hexN c with
 | some d=>.tuple ⟨[.int .i32 (d:Nat),.bool true]⟩
 | none=>.tuple ⟨[.int .i32 0,.bool false]⟩
theorem Z4e (c:UInt8):hexN c=if 48≤c.toNat∧c.toNat≤57 then some (c.toNat - 48) else if 97≤c.toNat∧c.toNat≤102 then some (c.toNat - 87) else if 65≤c.toNat∧c.toNat≤70 then some (c.toNat - 55) else none:=rfl
theorem Zd8 {c:UInt8} {d:Nat} (h:hexN c=some d):d < 16:=by
 rw [Z4e] at h
 repeat' split at h
 all_goals first|(simp only [Option.some.injEq] at h;omega)|cases h
theorem Z90 {F:World} {M:List Nat} {H:List Res} {c:UInt8}:Meets Tryz.prog 178 [.int .u8 (c.toNat:Nat)] F M H (fun e H'=>e=.returned (hexV c)∧H'=H):=by
 have hc:=c.toNat_lt
 refine Meets.enter Tryz.func178 rfl rfl ?_
 by_cases h1:48≤c.toNat∧c.toNat≤57
 ·have e1:hexV c=.tuple ⟨[.int .i32 ((c.toNat - 48:Nat):Int),.bool true]⟩:=by rw [hexV,Z4e,if_pos h1]
  rw [e1]
  obtain ⟨h1,h2⟩:=h1
  repeat' (first|((with_reducible apply T.subU8N (n:=48));apply rfl;apply rfl;omega;apply rfl)|refine Sg.Y3 ?_|(apply S.condQ;apply rfl;all_goals intro _)|(apply T.gcase;apply rfl;apply rfl;all_goals intro _)|fail)
  exact ⟨_,PSub.refl _,rfl,rfl⟩
 by_cases h3:97≤c.toNat∧c.toNat≤102
 ·have e1:hexV c=.tuple ⟨[.int .i32 ((c.toNat - 97:Nat)+10:Int),.bool true]⟩:=by rw [hexV,Z4e,if_neg h1,if_pos h3];simp only;rw [show ((c.toNat - 87:Nat):Int)=((c.toNat - 97:Nat)+10:Int) by omega]
  rw [e1]
  obtain ⟨h3,h2⟩:=h3
  repeat' (first|((with_reducible apply T.subU8N (n:=97));apply rfl;apply rfl;omega;apply rfl)|refine Sg.Y4 ?_|(apply S.condQ;apply rfl;all_goals intro _)|(apply T.gcase;apply rfl;apply rfl;all_goals intro _)|fail)
  all_goals exact ⟨_,PSub.refl _,rfl,rfl⟩
 by_cases h4:65≤c.toNat∧c.toNat≤70
 ·have e1:hexV c=.tuple ⟨[.int .i32 ((c.toNat - 65:Nat)+10:Int),.bool true]⟩:=by rw [hexV,Z4e,if_neg h1,if_neg h3,if_pos h4];simp only;rw [show ((c.toNat - 55:Nat):Int)=((c.toNat - 65:Nat)+10:Int) by omega]
  rw [e1]
  obtain ⟨h4,h2⟩:=h4
  repeat' (first|((with_reducible apply T.subU8N (n:=65));apply rfl;apply rfl;omega;apply rfl)|refine Sg.Y4 ?_|(apply S.condQ;apply rfl;all_goals intro _)|(apply T.gcase;apply rfl;apply rfl;all_goals intro _)|fail)
  all_goals exact ⟨_,PSub.refl _,rfl,rfl⟩
 ·have e1:hexV c=.tuple ⟨[.int .i32 0,.bool false]⟩:=by rw [hexV,Z4e,if_neg h1,if_neg h3,if_neg h4]
  rw [e1]
  repeat' (first|refine Sg.Y3 ?_|(apply S.condQ;apply rfl;all_goals intro _)|(apply T.gcase;apply rfl;apply rfl;all_goals intro _)|fail)
  all_goals exact ⟨_,PSub.refl _,rfl,rfl⟩
section
variable {F:World} {M:List Nat} {H:List Res} {p:Nat} {t:List UInt8} {o n m:Value} {a s:Nat} {k:List UInt8} {c b:Int}
def JrR (p:Nat) (t:List UInt8) (o n m:Value) (s:Nat) (k:List UInt8) (c b:Int) (B:Int) (H:List Res):Gt Nat→Ending→List Res→Prop
 | .ok a' u=>fun e H'=>e=.returned (.tuple ⟨[.int .i32 (u:Nat),.bool true]⟩)∧H'=.blk p (jrV t o n m a' s k c b) 86::H
 | .bad c' b'=>fun e H'=>∃ (a':Nat) (z:Int),(-B≤z∧z≤B)∧e=.returned (.tuple ⟨[.int .i32 z,.bool false]⟩)∧H'=.blk p (jrV t o n m a' s k c' b') 86::H
theorem badT {i u d:Nat}:Z0u true i u d=true↔(i=0∧d≠13∨i=1∧d < 12):=by
 unfold Z0u
 simp
theorem badF {i u d:Nat}:Z0u false i u d=true↔(i=1∧u=13∧12≤d):=by
 unfold Z0u
 simp [and_assoc]
theorem Zci {u d:Nat} (h:d < 16):u*2 ^ 4|||d=16*u+d:=by
 have:=Nat.two_pow_add_eq_or_of_lt (i:=4) (b:=d) h u
 rw [Nat.mul_comm (2 ^ 4) u] at this
 omega
theorem Z8T {t:List UInt8} {low:Bool} {fr k p u:Nat}:Z01 t low fr (k+1) p u=match t[p]? with
  | none=>.bad 31 p
  | some c=>match hexN c with
   | none=>.bad 33 fr
   | some d=>if Z0u low (3 - k) u d then .bad 33 fr else Z01 t low fr k (p+1) (16*u+d):=rfl
theorem Z5L {fr:Nat} {low:Bool} (ha:a≤t.length) (hl:t.length≤1000000000):Meets Tryz.prog 168 [.pointer (some ⟨p,0,none⟩),.int .i64 fr,.bool low] F M (.blk p (jrV t o n m a s k c b) 86::H) (JrR p t o n m s k c b 0 H (Z01 t low fr 4 a 0)):=by
 refine Meets.enter Tryz.func168 rfl rfl ?_
 repeat' (first|refine Sg.Y1 ?_|fail)
 refine S.loopE 1 [0,1,2] (fun R b' μ H' e=>∃ q i u:Nat,H'=.blk p (jrV t o n m q s k c b) 86::R∧e=(8,.int .i32 (u:Nat))::(12,.int .i64 i)::b'∧(q≤t.length∧i≤4∧u < 16 ^ i∧Z01 t low fr 4 a 0=Z01 t low fr (4 - i) q u)∧μ=4 - i) rfl rfl ?_ _ _ ⟨a,0,0,rfl,rfl,⟨ha,by omega,by decide,rfl⟩,rfl⟩ (by repeat' first|exact trivial|refine And.intro rfl ?_)
 rintro _ _ _ ⟨q,i,u,rfl,rfl,⟨h1,h2,h3,h4⟩,rfl⟩ ih
 by_cases h5:i < 4
 ·have h6:u < 4096:=Nat.lt_of_lt_of_le h3 (Nat.le_trans (Nat.pow_le_pow_right (by decide) (show i≤3 by omega)) (by decide))
  obtain ⟨j,hj⟩:∃ j,4 - i=j+1:=⟨3 - i,by omega⟩
  have hi:3 - j=i:=by omega
  rw [hj,Z8T (p:=q),hi] at h4
  rcases Nat.lt_or_ge q t.length with h7|h7
  ·have hq:t[q]?=some (t.getD q 0):=by simp [List.getD,h7]
   rw [hq] at h4
   have d1:∀ {X:List Res},Meets Tryz.prog 178 [.int .u8 ((t.getD q 0).toNat:Int)] F M X (fun e H'=>e=.returned (hexV (t.getD q 0))∧H'=X):=Z90
   cases hx:hexN (t.getD q 0) with
   | none =>
    have e2:hexV (t.getD q 0)=.tuple ⟨[.int .i32 0,.bool false]⟩:=by rw [hexV,hx]
    rw [e2] at d1
    simp only [hx] at h4
    repeat' (first|refine Sg.Y3 ?_|(apply S.condQ;apply rfl;all_goals intro _)|fail)
    (apply S.draw;(case Hs=>exact .blk p (jrV t o n m q s k c b) 86::H);(case es=>exact  [9]);(case n=>exact  15);(case hn=>rfl))
    repeat' (first|(apply T.call;apply rfl;apply rfl;with_reducible exact d1;rintro _ _ ⟨rfl,rfl⟩)|(apply SA.qn;(iterate 4 apply rfl);kernel_rfl)|(apply SA.done;apply rfl;kernel_rfl)|(apply SK.intro;(first|exact fun _ h=>h|exact fun _ h=>St.psub h (by ((repeat (first|dsimp only [List.set_cons_zero]|dsimp only [List.set_cons_succ]));repeat' first|exact PSub.refl _|exact PSub.nil|(apply PSub.take;(repeat' first|(with_reducible exact Z0)|(with_reducible apply Z1)))|(with_reducible apply PSub.drop)|((apply PSub.take);(repeat' first|exact Z0|(apply Z1)))))))|refine Sg.Y1 ?_|fail)
    rw [h4]
    refine T.call rfl rfl ZZ ?_
    rintro _ _ ⟨rfl,rfl⟩
    repeat' (first|refine Sg.Y2 ?_|fail)
    exact ⟨_,PSub.refl _,q,0,by omega,rfl,rfl⟩
   | some d =>
    have e2:hexV (t.getD q 0)=.tuple ⟨[.int .i32 (d:Nat),.bool true]⟩:=by rw [hexV,hx]
    rw [e2] at d1
    simp only [hx] at h4
    have hd:=Zd8 hx
    cases low with
    | false =>
     repeat' (first|refine Sg.Y3 ?_|(apply S.condQ;apply rfl;all_goals intro _)|fail)
     (apply S.draw;(case Hs=>exact .blk p (jrV t o n m q s k c b) 86::H);(case es=>exact  [9]);(case n=>exact  15);(case hn=>rfl))
     repeat' (first|(apply T.call;apply rfl;apply rfl;with_reducible exact d1;rintro _ _ ⟨rfl,rfl⟩)|(apply T.call;apply rfl;apply rfl;with_reducible exact ZZ;rintro _ _ ⟨rfl,rfl⟩)|(apply SA.qn;(iterate 4 apply rfl);kernel_rfl)|(apply SA.done;apply rfl;kernel_rfl)|(apply SK.intro;(first|exact fun _ h=>h|exact fun _ h=>St.psub h (by ((repeat (first|dsimp only [List.set_cons_zero]|dsimp only [List.set_cons_succ]));repeat' first|exact PSub.refl _|exact PSub.nil|(apply PSub.take;(repeat' first|(with_reducible exact Z0)|(with_reducible apply Z1)))|(with_reducible apply PSub.drop)|((apply PSub.take);(repeat' first|exact Z0|(apply Z1)))))))|refine Sg.Y4 ?_|(apply S.condQ;apply rfl;all_goals intro _)|(apply T.gcase;apply rfl;apply rfl;all_goals intro _)|fail)
     all_goals first
      | (rw [h4,if_pos (badF.2 (by omega))];exact ⟨_,PSub.refl _,q,0,by omega,rfl,rfl⟩)
      | (rw [if_neg (fun h=>(show ¬_ by omega) (badF.1 h))] at h4;rw [Zci hd];exact ih _ _ _ _ ⟨q+1,i+1,16*u+d,rfl,rfl,⟨by omega,by omega,by rw [Nat.pow_succ];omega,by rw [h4,show 4 - (i+1)=j by omega]⟩,rfl⟩ (by omega) (by repeat' first|exact trivial|refine And.intro rfl ?_))
    | true =>
     repeat' (first|refine Sg.Y3 ?_|(apply S.condQ;apply rfl;all_goals intro _)|fail)
     (apply S.draw;(case Hs=>exact .blk p (jrV t o n m q s k c b) 86::H);(case es=>exact  [9]);(case n=>exact  15);(case hn=>rfl))
     repeat' (first|(apply T.call;apply rfl;apply rfl;with_reducible exact d1;rintro _ _ ⟨rfl,rfl⟩)|(apply T.call;apply rfl;apply rfl;with_reducible exact ZZ;rintro _ _ ⟨rfl,rfl⟩)|(apply SA.qn;(iterate 4 apply rfl);kernel_rfl)|(apply SA.done;apply rfl;kernel_rfl)|(apply SK.intro;(first|exact fun _ h=>h|exact fun _ h=>St.psub h (by ((repeat (first|dsimp only [List.set_cons_zero]|dsimp only [List.set_cons_succ]));repeat' first|exact PSub.refl _|exact PSub.nil|(apply PSub.take;(repeat' first|(with_reducible exact Z0)|(with_reducible apply Z1)))|(with_reducible apply PSub.drop)|((apply PSub.take);(repeat' first|exact Z0|(apply Z1)))))))|refine Sg.Y4 ?_|(apply S.condQ;apply rfl;all_goals intro _)|(apply T.gcase;apply rfl;apply rfl;all_goals intro _)|fail)
     all_goals first
      | (rw [h4,if_pos (badT.2 (by omega))];exact ⟨_,PSub.refl _,q,0,by omega,rfl,rfl⟩)
      | (rw [if_neg (fun h=>(show ¬_ by omega) (badT.1 h))] at h4;rw [Zci hd];exact ih _ _ _ _ ⟨q+1,i+1,16*u+d,rfl,rfl,⟨by omega,by omega,by rw [Nat.pow_succ];omega,by rw [h4,show 4 - (i+1)=j by omega]⟩,rfl⟩ (by omega) (by repeat' first|exact trivial|refine And.intro rfl ?_))
  ·obtain rfl:q=t.length:=by omega
   rw [List.getElem?_eq_none (Nat.le_refl _)] at h4
   repeat' (first|refine Sg.Y3 ?_|(apply S.condQ;apply rfl;all_goals intro _)|fail)
   rw [h4]
   refine T.call rfl rfl ZK ?_
   rintro _ _ ⟨rfl,rfl⟩
   repeat' (first|refine Sg.Y2 ?_|fail)
   exact ⟨_,PSub.refl _,_,0,by omega,rfl,rfl⟩
 ·obtain rfl:i=4:=by omega
  rw [h4]
  repeat' (first|refine Sg.Y1 ?_|fail)
  exact ⟨_,PSub.refl _,rfl,rfl⟩
end
end Go.Proofs.YtophlopiigpbgaaGreatDoor
/- The walks of the program's reader of JSON: whole escapes. -/
namespace Go.Proofs.YtophlopiigpbgaaGreatDoor
open Sg Go.IntWalk
set_option maxRecDepth 100000
set_option maxHeartbeats 2000000
section
variable {F:World} {M:List Nat} {H:List Res} {p:Nat} {t:List UInt8} {o n m:Value} {a s:Nat} {k:List UInt8} {c b:Int}
theorem _root_.Sg.Y5 {P R:Prop} (k:R) (h:Sg.Kp R→P:=by intro k;(first|(apply T.sadd;apply rfl;apply rfl;(first|omega|(simp only [List.length_append,List.length_cons,List.length_nil];omega));apply rfl)|(apply T.orU64;apply rfl;apply rfl;omega;omega;apply rfl)|((with_reducible apply T.mulNK 3);apply rfl;apply rfl;omega;apply rfl)|((with_reducible apply T.addKN 2);apply rfl;apply rfl;omega;apply rfl)|((with_reducible apply T.mulNK 4);apply rfl;apply rfl;omega;apply rfl)|(apply T.sadd;apply rfl;apply rfl;omega;apply rfl)|(apply T.ssliceH;apply rfl;apply rfl;omega;apply rfl)|(apply T.sslice;(iterate 3 apply rfl);omega;apply rfl)|(apply T.ssliceL;apply rfl;apply rfl;omega;apply rfl)|(apply T.raddR;apply rfl;apply rfl;omega;apply rfl)|(apply T.rsubR;apply rfl;apply rfl;omega;apply rfl)|((with_reducible apply T.rshlZ 10);apply rfl;apply rfl;omega;apply rfl)|(apply T.mapLook;apply rfl;apply rfl;infer_instance;(first|assumption|(simp only [maxLen];omega)|omega);apply rfl)|(apply T.seql;(iterate 3 apply rfl))|(apply T.slen;apply rfl;apply rfl)|(apply T.sidx;apply rfl;apply rfl;omega;apply rfl)|(apply T.convS;apply rfl;infer_instance;(first|rfl|assumption|exact beN_len _ _|(simp;done)|(simp;omega));apply rfl)|(apply T.eqlP;apply rfl;apply rfl)|(apply T.eqlP0;apply rfl;apply rfl)|(apply T.neqP0;apply rfl;apply rfl)|(apply T.ptrLook;apply rfl;apply rfl;infer_instance;(first|assumption|(simp only [maxLen];omega)|omega);apply rfl)|(apply T.mv;apply rfl;apply rfl)|(apply T.asn;apply rfl;apply rfl)|(apply T.len;apply rfl;apply rfl)|(apply T.nilCheck;apply rfl;apply rfl)|(apply T.fieldAddrZ;apply rfl;apply rfl)|(apply T.load;apply rfl;apply rfl;infer_instance;apply rfl;apply rfl)|(apply T.lss;(iterate 3 apply rfl))|(apply T.gtr;(iterate 3 apply rfl))|(apply T.geq;(iterate 3 apply rfl))|(apply T.eql;(iterate 3 apply rfl))|(apply T.neq;(iterate 3 apply rfl))|(apply T.addI;apply rfl;apply rfl;omega;apply rfl)|(apply T.subI;apply rfl;apply rfl;omega;apply rfl)|(apply T.extract;(iterate 3 apply rfl))|(apply T.ixC;apply rfl;infer_instance;omega;(first|omega|(simp only [List.length_map];omega)|(simp;omega));apply rfl)|(apply T.ixF;apply rfl;apply rfl;infer_instance;exact (fun _=>rfl);apply rfl;omega;omega;apply rfl)|(apply T.fieldAddrF;apply rfl;infer_instance;exact (fun _=>rfl);apply rfl;omega;apply rfl)|(apply T.loadF;apply rfl;apply rfl;infer_instance;exact (fun _=>rfl);apply rfl;exact Zf (by omega);apply rfl;apply rfl)|(apply T.loadFN;apply rfl;apply rfl;infer_instance;exact (fun _=>rfl);apply rfl;exact Zf (by omega);apply rfl)|(apply T.loadB;apply rfl;infer_instance;omega;apply rfl)|(apply T.not;apply rfl;apply rfl)|(apply T.notB;apply rfl;apply rfl)|(apply T.pickT;(iterate 3 apply rfl))|(apply T.pickF;(iterate 3 apply rfl))|(apply T.buildL;(iterate 3 apply rfl))|(apply T.loadW;apply rfl;apply rfl;infer_instance;(first|rfl|(simp only [List.length_append,List.length_map,List.length_set,List.length_replicate,List.length_cons,List.length_nil];first|done|omega));apply rfl)|(apply T.sliceHK;apply rfl;apply rfl;omega;apply rfl)|(apply T.assert;(iterate 4 apply rfl))|(apply T.neqIf;apply rfl;apply rfl)|(apply T.neqNil;apply rfl;apply rfl)|(apply T.storeW;apply rfl;apply rfl;infer_instance;(first|rfl|(simp only [List.length_append,List.length_map,List.length_set,List.length_replicate,List.length_cons,List.length_nil];first|done|omega));(first|rfl|(simp only [List.length_append,List.length_map,List.length_set,List.length_replicate,List.length_cons,List.length_nil];first|done|omega));(first|rfl|(repeat' first|apply all_nV|apply Z11|apply all_iV|rfl|apply all_app)))|(apply T.store;apply rfl;apply rfl;infer_instance;(first|decide|(simp;omega)|simp);apply rfl)|(apply T.makeI;(iterate 3 apply rfl))|(with_reducible refine Sr.nil ?_)|(with_reducible refine S.seq ?_)|(with_reducible refine S.block ?_)|(with_reducible refine S.reg ?_)|(with_reducible refine S.skip ?_)|(with_reducible refine S.inBlock ?_)|(apply S.exit;apply rfl)|(apply S.quiet;apply rfl;kernel_rfl)|(apply T.ungV;apply rfl;(first|with_reducible rfl|decide))|(apply T.skip;apply rfl;(first|with_reducible rfl|decide);apply rfl)|(apply T.skipU;apply rfl;apply rfl)|(apply S.condTV;apply rfl;(first|with_reducible rfl|decide))|(apply S.condFV;apply rfl;(first|with_reducible rfl|decide))|(apply T.retW;apply rfl)|(apply T.doneW;apply rfl)|(with_reducible apply T.ofRet)|(apply T.retC;apply rfl;((repeat' first|apply RV.nil|(apply RV.tmp;apply rfl)|(apply RV.cellW;apply rfl;apply rfl;infer_instance;(first|rfl|(simp only [List.length_append,List.length_map,List.length_set,List.length_replicate,List.length_cons,List.length_nil];first|done|omega)))|(apply RV.cellP;apply rfl;apply rfl;infer_instance;apply rfl)));apply rfl)|(apply SA.en;apply rfl;apply rfl;kernel_rfl)|(apply T.ung;apply rfl)|fail);exact k.h):P:=h ⟨k⟩
theorem Z8A {fr:Nat} (ha:a≤t.length) (hl:t.length≤1000000000):Meets Tryz.prog 146 [.pointer (some ⟨p,0,none⟩),.int .i64 fr] F M (.blk p (jrV t o n m a s k c b) 86::H) (JrR p t o n m s k c b 100000000 H (Z1M t fr a)):=by
 refine Meets.enter Tryz.func146 rfl rfl ?_
 repeat' (first|refine Sg.Y1 ?_|fail)
 refine T.call rfl rfl (Z5L (fr:=fr) (low:=false) ha hl) ?_
 unfold Z1M
 cases h1:Z01 t false fr 4 a 0 with
 | bad e1 q1 =>
  rintro _ _ ⟨a1,z,hz,rfl,rfl⟩
  repeat' (first|refine Sg.Y1 ?_|fail)
  exact ⟨_,PSub.refl _,a1,z,by omega,rfl,rfl⟩
 | ok a1 hi =>
  rintro _ _ ⟨rfl,rfl⟩
  have hb:=Z6p h1
  have hf:=Z2e (low:=false) (fr:=fr) (k:=4) (u:=0) ha a1 hi h1
  simp only [Gt.bind]
  by_cases h2:hi < 55296∨57343 < hi
  ·rw [if_pos h2]
   repeat' (first|refine Sg.Y3 ?_|(apply S.condQ;apply rfl;all_goals intro _)|(apply T.gcase;apply rfl;apply rfl;all_goals intro _)|fail)
   all_goals exact ⟨_,PSub.refl _,rfl,rfl⟩
  ·rw [if_neg h2]
   have h3:¬hi < 55296:=by omega
   have h4:¬57343 < hi:=by omega
   repeat' (first|(apply T.bs;(iterate 6 apply rfl);intro nb)|refine Sg.Y3 ?_|(apply S.condQ;apply rfl;all_goals intro _)|(apply T.gcase;apply rfl;apply rfl;all_goals intro _)|fail)
   refine S.unroll ?_
   by_cases h5:a1 < t.length
   ·rw [Z7C h5]
    have hg:bAt t a1=(t.getD a1 0).toNat:=rfl
    by_cases h6:bAt t a1=(92:UInt8).toNat
    ·rw [if_pos h6]
     have h6':(t.getD a1 0).toNat=92:=h6
     simp only
     repeat' (first|refine Sg.Y3 ?_|(apply S.condQ;apply rfl;all_goals intro _)|fail)
     refine S.again ?_
     by_cases h7:a1+1 < t.length
     ·rw [Z7C h7]
      by_cases h8:bAt t (a1+1)=(117:UInt8).toNat
      ·rw [if_pos h8]
       have h8':((t.getD (a1+1) 0).toNat:Int)=117:=congrArg Int.ofNat h8
       simp only
       repeat' (first|(refine T.sidx (i:=a1+1) rfl rfl (by omega) rfl ?_)|refine Sg.Y3 ?_|(apply S.condQ;apply rfl;all_goals intro _)|fail)
       refine S.again ?_
       repeat' (first|refine Sg.Y1 ?_|fail)
       refine Sr.front p ?_
       refine T.call rfl rfl (Z5L (a:=a1+1+1) (fr:=fr) (low:=true) (by omega) hl) ?_
       cases h9:Z01 t true fr 4 (a1+1+1) 0 with
       | bad e1 q1 =>
        rintro _ _ ⟨a2,z,hz,rfl,rfl⟩
        repeat' (first|refine Sg.Y5 ?_|fail)
        exact ⟨_,by ((repeat (first|dsimp only [List.set_cons_zero]|dsimp only [List.set_cons_succ]));repeat' first|exact PSub.refl _|exact PSub.nil|(with_reducible apply PSub.app)|(apply PSub.take;(repeat' first|(with_reducible exact Z0)|(with_reducible apply Z1)))|(with_reducible apply PSub.drop)|((apply PSub.take);(repeat' first|exact Z0|(apply Z1)))),a2,_,by omega,rfl,rfl⟩
       | ok a2 lo =>
        rintro _ _ ⟨rfl,rfl⟩
        have hb2:=Z86 h9
        repeat' (first|refine Sg.Y5 ?_|fail)
        have e1:(65536+((hi:Int) - 55296)*2 ^ 10+((lo:Int) - 56320))=((65536+1024*(hi - 55296)+lo - 56320:Nat):Int):=by omega
        rw [e1]
        exact ⟨_,by ((repeat (first|dsimp only [List.set_cons_zero]|dsimp only [List.set_cons_succ]));repeat' first|exact PSub.refl _|exact PSub.nil|(with_reducible apply PSub.app)|(apply PSub.take;(repeat' first|(with_reducible exact Z0)|(with_reducible apply Z1)))|(with_reducible apply PSub.drop)|((apply PSub.take);(repeat' first|exact Z0|(apply Z1)))),rfl,rfl⟩
      ·rw [if_neg h8]
       have h8':¬((t.getD (a1+1) 0).toNat:Int)=117:=fun h=>h8 (Int.ofNat.inj h)
       repeat' (first|(refine T.sidx (i:=a1+1) rfl rfl (by omega) rfl ?_)|refine Sg.Y3 ?_|(apply S.condQ;apply rfl;all_goals intro _)|fail)
       refine Sr.front p ?_
       refine T.call rfl rfl ZZ ?_
       rintro _ _ ⟨rfl,rfl⟩
       repeat' (first|refine Sg.Y2 ?_|fail)
       exact ⟨_,by ((repeat (first|dsimp only [List.set_cons_zero]|dsimp only [List.set_cons_succ]));repeat' first|exact PSub.refl _|exact PSub.nil|(with_reducible apply PSub.app)|(apply PSub.take;(repeat' first|(with_reducible exact Z0)|(with_reducible apply Z1)))|(with_reducible apply PSub.drop)|((apply PSub.take);(repeat' first|exact Z0|(apply Z1)))),a1+1,0,by omega,rfl,rfl⟩
     ·rw [Z5S h7]
      have e9:(t.length:Int)=(a1:Int)+1:=by omega
      repeat' (first|refine Sg.Y3 ?_|(apply S.condQ;apply rfl;all_goals intro _)|fail)
      refine Sr.front p ?_
      refine T.call rfl rfl (ZK (a:=a1+1)) ?_
      rintro _ _ ⟨rfl,rfl⟩
      repeat' (first|refine Sg.Y2 ?_|fail)
      exact ⟨_,by ((repeat (first|dsimp only [List.set_cons_zero]|dsimp only [List.set_cons_succ]));repeat' first|exact PSub.refl _|exact PSub.nil|(with_reducible apply PSub.app)|(apply PSub.take;(repeat' first|(with_reducible exact Z0)|(with_reducible apply Z1)))|(with_reducible apply PSub.drop)|((apply PSub.take);(repeat' first|exact Z0|(apply Z1)))),a1+1,0,by omega,rfl,rfl⟩
    ·rw [if_neg h6]
     have h6':¬(t.getD a1 0).toNat=92:=h6
     repeat' (first|refine Sg.Y3 ?_|(apply S.condQ;apply rfl;all_goals intro _)|fail)
     refine Sr.front p ?_
     refine T.call rfl rfl ZZ ?_
     rintro _ _ ⟨rfl,rfl⟩
     repeat' (first|refine Sg.Y2 ?_|fail)
     exact ⟨_,by ((repeat (first|dsimp only [List.set_cons_zero]|dsimp only [List.set_cons_succ]));repeat' first|exact PSub.refl _|exact PSub.nil|(with_reducible apply PSub.app)|(apply PSub.take;(repeat' first|(with_reducible exact Z0)|(with_reducible apply Z1)))|(with_reducible apply PSub.drop)|((apply PSub.take);(repeat' first|exact Z0|(apply Z1)))),a1,0,by omega,rfl,rfl⟩
   ·rw [Z5S h5]
    repeat' (first|refine Sg.Y3 ?_|(apply S.condQ;apply rfl;all_goals intro _)|fail)
    refine Sr.front p ?_
    refine T.call rfl rfl ZK ?_
    rintro _ _ ⟨rfl,rfl⟩
    repeat' (first|refine Sg.Y2 ?_|fail)
    exact ⟨_,by ((repeat (first|dsimp only [List.set_cons_zero]|dsimp only [List.set_cons_succ]));repeat' first|exact PSub.refl _|exact PSub.nil|(with_reducible apply PSub.app)|(apply PSub.take;(repeat' first|(with_reducible exact Z0)|(with_reducible apply Z1)))|(with_reducible apply PSub.drop)|((apply PSub.take);(repeat' first|exact Z0|(apply Z1)))),a1,0,by omega,rfl,rfl⟩
end
end Go.Proofs.YtophlopiigpbgaaGreatDoor
/- The walks of the program's reader of JSON: escapes. -/
namespace Go.Proofs.YtophlopiigpbgaaGreatDoor
open Sg Go.IntWalk
set_option maxRecDepth 100000
set_option maxHeartbeats 4000000
section
variable {F:World} {M:List Nat} {H:List Res} {p:Nat} {t:List UInt8} {o n m:Value} {s:Nat} {k:List UInt8} {c b:Int}
theorem Z7g {fr:Nat} (ha:fr < t.length) (hl:t.length≤1000000000):Meets Tryz.prog 122 [.pointer (some ⟨p,0,none⟩)] F M (.blk p (jrV t o n m fr s k c b) 86::H) (JrR p t o n m s k c b 100000000 H (escX t fr)):=by
 refine Meets.enter Tryz.func122 rfl rfl ?_
 have hu:=Z3k t (fr+1)
 repeat' (first|refine Sg.Y1 ?_|fail)
 refine T.call rfl rfl (ZY (a:=fr+1)) ?_
 rintro _ _ ⟨rfl,rfl⟩
 by_cases h1:fr+1 < t.length
 ·rw [Zdc h1]
  by_cases h2:bAt t (fr+1)=117
  ·rw [if_pos h2]
   repeat' (first|refine Sg.Y3 ?_|(apply S.condQ;apply rfl;all_goals intro _)|fail)
   refine T.call rfl rfl (Z8A (a:=fr+2) (fr:=fr) (by omega) hl) ?_
   cases Z1M t fr (fr+2) with
   | bad e1 q1 =>
    rintro _ _ ⟨a1,z,hz,rfl,rfl⟩
    repeat' (first|refine Sg.Y2 ?_|fail)
    exact ⟨_,PSub.refl _,a1,z,hz,rfl,rfl⟩
   | ok a1 u =>
    rintro _ _ ⟨rfl,rfl⟩
    repeat' (first|refine Sg.Y2 ?_|fail)
    exact ⟨_,PSub.refl _,rfl,rfl⟩
  ·rw [if_neg h2]
   repeat' (first|refine Sg.Y3 ?_|(apply S.condQ;apply rfl;all_goals intro _)|fail)
   refine S.unroll ?_
   repeat' (first|(apply T.alloc;apply rfl;intro nb)|refine Sg.Y4 ?_|(apply S.condQ;apply rfl;all_goals intro _)|fail)
   ·rw [show bAt t (fr+1)=34 by omega]
    exact ⟨_,PSub.drop (PSub.refl _),rfl,rfl⟩
   refine S.again ?_
   repeat' (first|(apply T.alloc;apply rfl;intro nb)|refine Sg.Y4 ?_|(apply S.condQ;apply rfl;all_goals intro _)|fail)
   ·rw [show bAt t (fr+1)=92 by omega]
    exact ⟨_,PSub.drop (PSub.drop (PSub.refl _)),rfl,rfl⟩
   refine S.again ?_
   repeat' (first|(apply T.alloc;apply rfl;intro nb)|refine Sg.Y4 ?_|(apply S.condQ;apply rfl;all_goals intro _)|fail)
   ·rw [show bAt t (fr+1)=47 by omega]
    exact ⟨_,PSub.drop (PSub.drop (PSub.drop (PSub.refl _))),rfl,rfl⟩
   refine S.again ?_
   repeat' (first|(apply T.alloc;apply rfl;intro nb)|refine Sg.Y4 ?_|(apply S.condQ;apply rfl;all_goals intro _)|fail)
   ·rw [show bAt t (fr+1)=98 by omega]
    exact ⟨_,PSub.drop (PSub.drop (PSub.drop (PSub.drop (PSub.refl _)))),rfl,rfl⟩
   refine S.again ?_
   repeat' (first|(apply T.alloc;apply rfl;intro nb)|refine Sg.Y4 ?_|(apply S.condQ;apply rfl;all_goals intro _)|fail)
   ·rw [show bAt t (fr+1)=102 by omega]
    exact ⟨_,PSub.drop (PSub.drop (PSub.drop (PSub.drop (PSub.drop (PSub.refl _))))),rfl,rfl⟩
   refine S.again ?_
   repeat' (first|(apply T.alloc;apply rfl;intro nb)|refine Sg.Y4 ?_|(apply S.condQ;apply rfl;all_goals intro _)|fail)
   ·rw [show bAt t (fr+1)=110 by omega]
    exact ⟨_,PSub.drop (PSub.drop (PSub.drop (PSub.drop (PSub.drop (PSub.drop (PSub.refl _)))))),rfl,rfl⟩
   refine S.again ?_
   repeat' (first|(apply T.alloc;apply rfl;intro nb)|refine Sg.Y4 ?_|(apply S.condQ;apply rfl;all_goals intro _)|fail)
   ·rw [show bAt t (fr+1)=114 by omega]
    exact ⟨_,PSub.drop (PSub.drop (PSub.drop (PSub.drop (PSub.drop (PSub.drop (PSub.drop (PSub.refl _))))))),rfl,rfl⟩
   refine S.again ?_
   repeat' (first|(apply T.alloc;apply rfl;intro nb)|refine Sg.Y4 ?_|(apply S.condQ;apply rfl;all_goals intro _)|fail)
   ·rw [show bAt t (fr+1)=116 by omega]
    exact ⟨_,PSub.drop (PSub.drop (PSub.drop (PSub.drop (PSub.drop (PSub.drop (PSub.drop (PSub.drop (PSub.refl _)))))))),rfl,rfl⟩
   refine S.again ?_
   repeat' (first|refine Sg.Y1 ?_|fail)
   refine Sr.front p ?_
   refine T.call rfl rfl ZZ ?_
   rintro _ _ ⟨rfl,rfl⟩
   repeat' (first|refine Sg.Y2 ?_|fail)
   have e9:escN (bAt t (fr+1))=none:=by
    unfold escN
    repeat' (split;· omega)
    rfl
   rw [e9]
   exact ⟨_,by ((repeat (first|dsimp only [List.set_cons_zero]|dsimp only [List.set_cons_succ]));repeat' first|exact PSub.refl _|exact PSub.nil|(with_reducible apply PSub.app)|(apply PSub.take;(repeat' first|(with_reducible exact Z0)|(with_reducible apply Z1)))|(with_reducible apply PSub.drop)|((apply PSub.take);(repeat' first|exact Z0|(apply Z1)))),fr+1,0,by omega,rfl,rfl⟩
 ·rw [ZbS h1]
  repeat' (first|refine Sg.Y3 ?_|(apply S.condQ;apply rfl;all_goals intro _)|fail)
  refine T.call rfl rfl (ZK (a:=fr+1)) ?_
  rintro _ _ ⟨rfl,rfl⟩
  repeat' (first|refine Sg.Y2 ?_|fail)
  exact ⟨_,PSub.refl _,fr+1,0,by omega,rfl,rfl⟩
end
end Go.Proofs.YtophlopiigpbgaaGreatDoor
/- The library's contracts, laid at this program (printed by the kit's tools lay-shelf and lay-plain, cut out by a program). -/
namespace Go.Proofs
open Go.Shelf
def Tryz.lays197_ren:Go.Shelf.Ren:=⟨fun|197=>148|260=>169|n=>n,fun|9=>9|21=>21|3=>3|4=>4|5=>5|105=>205|119=>123|0=>0|46=>118|139=>126|138=>125|n=>n,fun|3=>0|4=>1|n=>n⟩
theorem Tryz.lays197:Go.Proofs.Lays.n197 Tryz.prog Tryz.lays197_ren:={
 mixed:=by kernel_rfl
 f197:=Tryz.func148.trans (congrArg some (by kernel_rfl))
 f260:=Tryz.func169.trans (congrArg some (by kernel_rfl))
 t0:=Tryz.underlying0
 a0:=Tryz.isAgg0
 z0:=Tryz.sizeOf0
 v0:=Tryz.zeroValue0
 t3:=Tryz.underlying3
 a3:=Tryz.isAgg3
 z3:=Tryz.sizeOf3
 v3:=Tryz.zeroValue3
 t4:=Tryz.underlying4
 a4:=Tryz.isAgg4
 z4:=Tryz.sizeOf4
 v4:=Tryz.zeroValue4
 t5:=Tryz.underlying5
 a5:=Tryz.isAgg5
 z5:=Tryz.sizeOf5
 v5:=Tryz.zeroValue5
 t9:=Tryz.underlying9
 a9:=Tryz.isAgg9
 z9:=Tryz.sizeOf9
 v9:=Tryz.zeroValue9
 t21:=Tryz.underlying21
 a21:=Tryz.isAgg21
 z21:=Tryz.sizeOf21
 v21:=Tryz.zeroValue21
 t46:=Tryz.underlying118
 a46:=Tryz.isAgg118
 z46:=Tryz.sizeOf118
 v46:=Tryz.zeroValue118
 t105:=Tryz.underlying205
 a105:=Tryz.isAgg205
 z105:=Tryz.sizeOf205
 v105:=Tryz.zeroValue205
 t119:=Tryz.underlying123
 a119:=Tryz.isAgg123
 z119:=Tryz.sizeOf123
 t138:=Tryz.underlying125
 a138:=Tryz.isAgg125
 z138:=Tryz.sizeOf125
 v138:=Tryz.zeroValue125
 t139:=Tryz.underlying126
 a139:=Tryz.isAgg126
 z139:=Tryz.sizeOf126
 v139:=Tryz.zeroValue126
 g3:=by kernel_rfl
 g4:=by kernel_rfl }
open Go.RowKit Go.Lib in
theorem Tryz.utf8_DecodeRuneInString (s:ByteArray) (w:World) (hT:Lib.Utf8Tabs 0 1 w) :
  Calls Tryz.prog 148 #[.string s] w fun e w'=>e=.returned (.tuple #[.int .i32 (Lib.decodeGo s).1,.int .i64 (Lib.decodeGo s).2])∧Below w.heap.size w w':=Any.utf8_DecodeRuneInString Tryz.lays197 s w hT
end Go.Proofs
/- The walks of the program's reader of JSON: sequences of UTF-8. -/
namespace Go.Proofs.YtophlopiigpbgaaGreatDoor
open Sg Go.IntWalk Go.Lib
set_option maxRecDepth 100000
set_option maxHeartbeats 2000000
def Z8a:List Value:=(List.range 256).map fun c=>.int .u8 (firstT c:Nat)
def accL:List Value:=(List.range 16).flatMap fun i=>[.int .u8 (accLo i:Nat),.int .u8 (accHi i:Nat)]
structure Tabs (F:World) (M:List Nat):Prop where
 fst:∀ H,Rd F M H (some ⟨0,0,none⟩) Z8a
 acc:∀ H,Rd F M H (some ⟨1,0,none⟩) accL
theorem Z89 {c:Nat} (h:c < 256):Z8a[c]?=some (.int .u8 (firstT c:Nat)):=by simp [Z8a,h]
theorem Z7r:∀ i:Fin 16,(accL.drop (i.val*2)).take 2=[.int .u8 (accLo i.val:Nat),.int .u8 (accHi i.val:Nat)]:=by
 intro i
 have h1:=Z5y (g:=fun i=>[Value.int .u8 (accLo i:Nat),.int .u8 (accHi i:Nat)]) (sz:=2) (xs:=List.range 16) (i:=i.val) (fun _=>rfl) (by simp)
 unfold accL
 rw [h1]
 have h2:(List.range 16).getD i.val default=i.val:=by simp [List.getD,i.isLt]
 rw [h2]
 rfl
theorem Tabs.met {F:World} {M:List Nat} (h:Tabs F M) {w:World} {H:List Res} (hw:St F M w H):Utf8Tabs 0 1 w:=by
 have h1:=(h.fst H).h w hw
 have h2:=(h.acc H).h w hw
 have hlen:accL.length=32:=by decide
 refine ⟨fun c hc=>?_,fun i hi=>?_⟩
 ·obtain ⟨ad,e1,e2⟩:=h1 c _ (Z89 hc)
  simp only [Option.some.injEq] at e1
  subst e1
  simpa [Zo] using e2
 ·have h3:=Z7r ⟨i,hi⟩
  simp only at h3
  have g0:accL[2*i]?=some (.int .u8 (accLo i:Nat)):=by
   have:=congrArg (fun l=>l[0]?) h3
   simpa [List.getElem?_take,List.getElem?_drop,Nat.mul_comm] using this
  have g1:accL[2*i+1]?=some (.int .u8 (accHi i:Nat)):=by
   have:=congrArg (fun l=>l[1]?) h3
   simpa [List.getElem?_take,List.getElem?_drop,Nat.mul_comm] using this
  obtain ⟨ad,e1,e2⟩:=h2 _ _ g0
  obtain ⟨ad',e1',e2'⟩:=h2 _ _ g1
  simp only [Option.some.injEq] at e1 e1'
  subst e1 e1'
  refine ⟨?_,?_⟩
  ·simpa [Zo] using e2
  ·simpa [Zo] using e2'
theorem Zax (b:Nat):firstT b < 256:=by
 have:=firstT_cases b
 omega
theorem Zas {F:World} {M:List Nat} {H:List Res} (hT:Tabs F M) {l:List UInt8} (h0:0 < l.length) (hl:l.length≤1000000000) :
  Meets Tryz.prog 149 [sV l] F M H (fun e H'=>e=.returned (.bool (Z4B l.length (bAt l 0) (bAt l 1) (bAt l 2)))∧H'=H):=by
 refine Meets.enter Tryz.func149 rfl rfl ?_
 have i1:=hT.fst
 have i2:=hT.acc
 have hb0:=Z3k l 0
 have hx:=Zax (bAt l 0)
 have g1:=Z89 hb0
 have g2:=Z7r ⟨firstT (bAt l 0) / 2 ^ 4,by omega⟩
 simp only at g2
 have hfull:Z4B l.length (bAt l 0) (bAt l 1) (bAt l 2)=decide (firstT (bAt l 0) % 8≤l.length∨(1 < l.length∧(bAt l 1 < accLo (firstT (bAt l 0) / 2 ^ 4)∨accHi (firstT (bAt l 0) / 2 ^ 4) < bAt l 1))∨(2 < l.length∧(bAt l 2 < 128∨191 < bAt l 2))):=by
  unfold Z4B
  simp only [Bool.decide_or,Bool.decide_and]
 rw [hfull]
 have hlen:accL.length=32:=by decide
 have e7:firstT (bAt l 0)&&&7=firstT (bAt l 0) % 8:=by
  rw [show 7=2 ^ 3 - 1 from rfl,Nat.and_two_pow_sub_one_eq_mod]
 have g3:(accL.drop (0+((firstT (bAt l 0) / 2 ^ 4:Nat):Int).toNat*2)).take 2=[.int .u8 (accLo (firstT (bAt l 0) / 2 ^ 4):Nat),.int .u8 (accHi (firstT (bAt l 0) / 2 ^ 4):Nat)]:=by
  rw [Nat.zero_add,Int.toNat_natCast]
  exact g2
 have u0:(l.getD 0 0).toNat=bAt l 0:=rfl
 have u1:(l.getD 1 0).toNat=bAt l 1:=rfl
 have u2:(l.getD 2 0).toNat=bAt l 2:=rfl
 repeat' (first|(refine T.sidx (i:=0) rfl rfl (by omega) rfl ?_)|(refine T.sidx (i:=1) rfl rfl (by omega) rfl ?_)|(refine T.sidx (i:=2) rfl rfl (by omega) rfl ?_)|(apply T.loadG;apply rfl;apply rfl;exact i1 _;exact g1;apply rfl)|(apply T.loadGN;apply rfl;apply rfl;exact i2 _;omega;omega;exact g3;apply rfl)|((with_reducible apply T.andU8 (n:=7));apply rfl;apply rfl;omega;omega;apply rfl;rw [e7])|((with_reducible apply T.shrU8 (n:=4));apply rfl;apply rfl;omega;apply rfl)|(apply T.alloc;apply rfl;intro nb)|refine Sg.Y3 ?_|(apply S.condQ;apply rfl;all_goals intro _)|(apply T.gcase;apply rfl;apply rfl;all_goals intro _)|fail)
 all_goals first
  | exact ⟨_,PSub.refl _,by rw [decide_eq_true (by omega)],rfl⟩
  | exact ⟨_,PSub.drop (PSub.refl _),by rw [decide_eq_true (by omega)],rfl⟩
  | exact ⟨_,PSub.drop (PSub.refl _),by rw [decide_eq_false (by omega)],rfl⟩
section
variable {F:World} {M:List Nat} {H:List Res} {p:Nat} {t:List UInt8} {o n m:Value} {a s:Nat} {k:List UInt8} {c b:Int}
theorem Z7l (hT:Tabs F M) (l:List UInt8) {H:List Res}:Meets Tryz.prog 148 [sV l] F M H (fun e H'=>e=.returned (.tuple ⟨[.int .i32 ((decodeGo (ByteArray.mk l.toArray)).1:Nat),.int .i64 ((decodeGo (ByteArray.mk l.toArray)).2:Nat)]⟩)∧H'=H):=fun w hw =>
 (Tryz.utf8_DecodeRuneInString (ByteArray.mk l.toArray) w (hT.met hw)).mono fun e w' ⟨h1,h2⟩=>⟨H,⟨h1,rfl⟩,hw.below h2⟩
theorem get!_bAt (l:List UInt8) (j:Nat):((ByteArray.mk l.toArray).get! j).toNat=bAt l j:=by
 show (l.toArray[j]!).toNat=_
 simp [bAt,List.getD,getElem!_def]
 cases l[j]?<;>rfl
theorem Z7m {l:List UInt8} (h:0 < l.length):decodeGo (ByteArray.mk l.toArray)=decodeN l.length (bAt l 0) (bAt l 1) (bAt l 2) (bAt l 3):=by
 have hs:(ByteArray.mk l.toArray).size=l.length:=rfl
 unfold decodeGo
 rw [if_neg (by omega),decode_at,get!_bAt,get!_bAt,get!_bAt,get!_bAt,hs,Nat.sub_zero]
theorem Z1x (t:List UInt8) (p j:Nat):bAt (t.drop p) j=bAt t (p+j):=by
 unfold bAt
 simp [List.getD,List.getElem?_drop]
def JrQ (p:Nat) (t:List UInt8) (o n m:Value) (a s:Nat) (k:List UInt8) (c b:Int) (H:List Res):Gt Unit→Ending→List Res→Prop
 | .ok a' _=>fun e H'=>e=.returned (.tuple ⟨[.int .i64 ((a' - a:Nat):Int),.bool true]⟩)∧H'=.blk p (jrV t o n m a s k c b) 86::H
 | .bad c' b'=>fun e H'=>e=.returned (.tuple ⟨[.int .i64 0,.bool false]⟩)∧H'=.blk p (jrV t o n m a s k c' b') 86::H
theorem Z5h (hT:Tabs F M) {ch:UInt8} (hc:t[a]?=some ch) (h128:128≤ch.toNat) (hl:t.length≤1000000000):Meets Tryz.prog 124 [.pointer (some ⟨p,0,none⟩)] F M (.blk p (jrV t o n m a s k c b) 86::H) (JrQ p t o n m a s k c b H (Z2D t a ch)):=by
 refine Meets.enter Tryz.func124 rfl rfl ?_
 have hlt:=(List.getElem?_eq_some_iff.1 hc).1
 have hsay:=Z5i hc h128
 have hch:bAt t a=ch.toNat:=Z59 hc
 have hne:0 < (t.drop a).length:=by rw [List.length_drop];omega
 have d0:=Z7m hne
 rw [Z1x,Z1x,Z1x,Z1x,List.length_drop,Nat.add_zero,hch] at d0
 have d1:∀ {X:List Res},Meets Tryz.prog 148 [sV (t.drop a)] F M X (fun e H'=>e=.returned (.tuple ⟨[.int .i32 ((decodeGo (ByteArray.mk (t.drop a).toArray)).1:Nat),.int .i64 ((decodeGo (ByteArray.mk (t.drop a).toArray)).2:Nat)]⟩)∧H'=X):=Z7l hT _
 have d2:∀ {X:List Res},Meets Tryz.prog 149 [sV (t.drop a)] F M X (fun e H'=>e=.returned (.bool (Z4B (t.length - a) ch.toNat (bAt t (a+1)) (bAt t (a+2))))∧H'=X):=by
  intro X
  have:=Zas (H:=X) hT (l:=t.drop a) hne (by rw [List.length_drop];omega)
  rw [Z1x,Z1x,Z1x,List.length_drop,Nat.add_zero,hch] at this
  exact this
 rw [d0] at d1
 unfold Z3c at hsay
 generalize decodeN (t.length - a) ch.toNat (bAt t (a+1)) (bAt t (a+2)) (bAt t (a+3))=dd at *
 generalize Z4B (t.length - a) ch.toNat (bAt t (a+1)) (bAt t (a+2))=ff at *
 repeat' (first|refine Sg.Y1 ?_|fail)
 cases hx:Z2D t a ch with
 | ok a' u =>
  rw [hx] at hsay
  simp only at hsay
  obtain ⟨h1,h2,h3⟩:=hsay
  (apply S.draw;(case Hs=>exact .blk p (jrV t o n m a s k c b) 86::H);(case es=>exact  [9]);(case n=>exact  15);(case hn=>rfl))
  repeat' (first|(apply T.call;apply rfl;apply rfl;with_reducible exact d1;rintro _ _ ⟨rfl,rfl⟩)|(apply SA.qn;(iterate 4 apply rfl);kernel_rfl)|(apply SA.done;apply rfl;kernel_rfl)|(apply SK.intro;(first|exact fun _ h=>h|exact fun _ h=>St.psub h (by ((repeat (first|dsimp only [List.set_cons_zero]|dsimp only [List.set_cons_succ]));repeat' first|exact PSub.refl _|exact PSub.nil|(apply PSub.take;(repeat' first|(with_reducible exact Z0)|(with_reducible apply Z1)))|(with_reducible apply PSub.drop)|((apply PSub.take);(repeat' first|exact Z0|(apply Z1)))))))|refine Sg.Y4 ?_|(apply S.condQ;apply rfl;all_goals intro _)|(apply T.gcase;apply rfl;apply rfl;all_goals intro _)|fail)
  all_goals
   rw [h1]
   exact ⟨_,PSub.refl _,rfl,rfl⟩
 | bad e q =>
  rw [hx] at hsay
  simp only at hsay
  obtain ⟨rfl,h2⟩:=hsay
  (apply S.draw;(case Hs=>exact .blk p (jrV t o n m a s k c b) 86::H);(case es=>exact  [9]);(case n=>exact  15);(case hn=>rfl))
  repeat' (first|(apply T.call;apply rfl;apply rfl;with_reducible exact d1;rintro _ _ ⟨rfl,rfl⟩)|(apply SA.qn;(iterate 4 apply rfl);kernel_rfl)|(apply SA.done;apply rfl;kernel_rfl)|(apply SK.intro;(first|exact fun _ h=>h|exact fun _ h=>St.psub h (by ((repeat (first|dsimp only [List.set_cons_zero]|dsimp only [List.set_cons_succ]));repeat' first|exact PSub.refl _|exact PSub.nil|(apply PSub.take;(repeat' first|(with_reducible exact Z0)|(with_reducible apply Z1)))|(with_reducible apply PSub.drop)|((apply PSub.take);(repeat' first|exact Z0|(apply Z1)))))))|refine Sg.Y5 ?_|fail)
  rcases h2 with ⟨rfl,rfl,rfl⟩|⟨rfl,rfl,rfl⟩
  ·(apply S.draw;(case Hs=>exact .blk p (jrV t o n m a s k c b) 86::H);(case es=>exact  [9]);(case n=>exact  11);(case hn=>rfl))
   repeat' (first|(apply T.call;apply rfl;apply rfl;with_reducible exact d2;rintro _ _ ⟨rfl,rfl⟩)|(apply T.call;apply rfl;apply rfl;with_reducible exact ZZ;rintro _ _ ⟨rfl,rfl⟩)|(apply SA.qn;(iterate 4 apply rfl);kernel_rfl)|(apply SA.done;apply rfl;kernel_rfl)|(apply SK.intro;(first|exact fun _ h=>h|exact fun _ h=>St.psub h (by ((repeat (first|dsimp only [List.set_cons_zero]|dsimp only [List.set_cons_succ]));repeat' first|exact PSub.refl _|exact PSub.nil|(apply PSub.take;(repeat' first|(with_reducible exact Z0)|(with_reducible apply Z1)))|(with_reducible apply PSub.drop)|((apply PSub.take);(repeat' first|exact Z0|(apply Z1)))))))|refine Sg.Y5 ?_|fail)
   exact ⟨_,PSub.refl _,rfl,rfl⟩
  ·(apply S.draw;(case Hs=>exact .blk p (jrV t o n m q s k c b) 86::H);(case es=>exact  [9]);(case n=>exact  11);(case hn=>rfl))
   repeat' (first|(apply T.call;apply rfl;apply rfl;with_reducible exact d2;rintro _ _ ⟨rfl,rfl⟩)|(apply T.call;apply rfl;apply rfl;with_reducible exact ZZ;rintro _ _ ⟨rfl,rfl⟩)|(apply SA.qn;(iterate 4 apply rfl);kernel_rfl)|(apply SA.done;apply rfl;kernel_rfl)|(apply SK.intro;(first|exact fun _ h=>h|exact fun _ h=>St.psub h (by ((repeat (first|dsimp only [List.set_cons_zero]|dsimp only [List.set_cons_succ]));repeat' first|exact PSub.refl _|exact PSub.nil|(apply PSub.take;(repeat' first|(with_reducible exact Z0)|(with_reducible apply Z1)))|(with_reducible apply PSub.drop)|((apply PSub.take);(repeat' first|exact Z0|(apply Z1)))))))|refine Sg.Y5 ?_|fail)
   exact ⟨_,PSub.refl _,rfl,rfl⟩
end
end Go.Proofs.YtophlopiigpbgaaGreatDoor
