/- The rules of the single operations, as the walks use them. Printed by a program. -/
import Derived.Test.YtophlopiigpbgaaGreatDoorOps
namespace Sg
open Go Go.RowKit
theorem Z5c (n:Int):IntKind.u8.wrap n=n % 256:=by rw [IntKind.wrap_u8]
theorem Z5d (n:Int):IntKind.u32.wrap n=n % 4294967296:=by rw [IntKind.wrap_u32]
theorem Z7t (n:Int):IntKind.u64.wrap n=n % 18446744073709551616:=by rw [IntKind.wrap_u64]
theorem Zi {w m:Nat} (h:m < 2 ^ w):(BitVec.ofInt w (m:Int)).toNat=m:=by
 rw [BitVec.ofInt_natCast,BitVec.toNat_ofNat,Nat.mod_eq_of_lt h]
theorem Zcp {m n:Nat} (hm:m < 256) (hn:n < 256):IntKind.u8.wrap ((BitVec.ofInt IntKind.u8.bits (m:Int)&&&BitVec.ofInt IntKind.u8.bits (n:Int)).toNat:Int)=((m&&&n:Nat):Int):=by
 have h1:(BitVec.ofInt 8 (m:Int)).toNat=m:=Zi (Nat.lt_of_lt_of_le hm (by decide))
 have h2:(BitVec.ofInt 8 (n:Int)).toNat=n:=Zi (Nat.lt_of_lt_of_le hn (by decide))
 have h3:m&&&n < 2 ^ 8:=Nat.and_lt_two_pow m (by omega)
 show IntKind.u8.wrap ((BitVec.ofInt 8 (m:Int)&&&BitVec.ofInt 8 (n:Int)).toNat:Int)=_
 rw [BitVec.toNat_and,h1,h2]
 exact IntWalk.u8_in _ (by omega)
theorem ZdM {m n:Nat} (hm:m < 256) (hn:n < 256):IntKind.u8.wrap ((BitVec.ofInt IntKind.u8.bits (m:Int)|||BitVec.ofInt IntKind.u8.bits (n:Int)).toNat:Int)=((m|||n:Nat):Int):=by
 have h1:(BitVec.ofInt 8 (m:Int)).toNat=m:=Zi (Nat.lt_of_lt_of_le hm (by decide))
 have h2:(BitVec.ofInt 8 (n:Int)).toNat=n:=Zi (Nat.lt_of_lt_of_le hn (by decide))
 have h3:m|||n < 2 ^ 8:=Nat.or_lt_two_pow (by omega) (by omega)
 show IntKind.u8.wrap ((BitVec.ofInt 8 (m:Int)|||BitVec.ofInt 8 (n:Int)).toNat:Int)=_
 rw [BitVec.toNat_or,h1,h2]
 exact IntWalk.u8_in _ (by omega)
theorem ZdF {m n:Nat} (hm:m*2 ^ n < 256) (hn:n≤8):IntKind.u8.wrap ((m:Int)*2 ^ (min (n:Int).toNat IntKind.u8.bits))=((m*2 ^ n:Nat):Int):=by
 have h1:min (n:Int).toNat IntKind.u8.bits=n:=by show min (n:Int).toNat 8=n;omega
 rw [h1,show ((m:Int)*2 ^ n)=((m*2 ^ n:Nat):Int) by push_cast;rfl]
 exact IntWalk.u8_in _ (by omega)
theorem ZdD {m n:Nat} (hn:n≤8):(m:Int).fdiv (2 ^ (min (n:Int).toNat IntKind.u8.bits))=((m / 2 ^ n:Nat):Int):=by
 have h1:min (n:Int).toNat IntKind.u8.bits=n:=by show min (n:Int).toNat 8=n;omega
 rw [h1,Int.fdiv_eq_ediv_of_nonneg _ (by have:=Int.pow_pos (n:=(2:Int)) (m:=n) (by decide);omega)]
 push_cast
 rfl
theorem Zdq {m n:Nat} (hm:m < 4294967296) (hn:n < 4294967296):IntKind.u32.wrap ((BitVec.ofInt IntKind.u32.bits (m:Int)&&&BitVec.ofInt IntKind.u32.bits (n:Int)).toNat:Int)=((m&&&n:Nat):Int):=by
 have h1:(BitVec.ofInt 32 (m:Int)).toNat=m:=Zi (Nat.lt_of_lt_of_le hm (by decide))
 have h2:(BitVec.ofInt 32 (n:Int)).toNat=n:=Zi (Nat.lt_of_lt_of_le hn (by decide))
 have h3:m&&&n < 2 ^ 32:=Nat.and_lt_two_pow m (by omega)
 show IntKind.u32.wrap ((BitVec.ofInt 32 (m:Int)&&&BitVec.ofInt 32 (n:Int)).toNat:Int)=_
 rw [BitVec.toNat_and,h1,h2]
 exact IntWalk.u32_in _ (by omega)
theorem Zch {m n:Nat} (hm:m < 4294967296) (hn:n < 4294967296):IntKind.u32.wrap ((BitVec.ofInt IntKind.u32.bits (m:Int)|||BitVec.ofInt IntKind.u32.bits (n:Int)).toNat:Int)=((m|||n:Nat):Int):=by
 have h1:(BitVec.ofInt 32 (m:Int)).toNat=m:=Zi (Nat.lt_of_lt_of_le hm (by decide))
 have h2:(BitVec.ofInt 32 (n:Int)).toNat=n:=Zi (Nat.lt_of_lt_of_le hn (by decide))
 have h3:m|||n < 2 ^ 32:=Nat.or_lt_two_pow (by omega) (by omega)
 show IntKind.u32.wrap ((BitVec.ofInt 32 (m:Int)|||BitVec.ofInt 32 (n:Int)).toNat:Int)=_
 rw [BitVec.toNat_or,h1,h2]
 exact IntWalk.u32_in _ (by omega)
theorem Zcr {m n:Nat} (hm:m < 4294967296) (hn:n < 4294967296):IntKind.u32.wrap ((BitVec.ofInt IntKind.u32.bits (m:Int) ^^^ BitVec.ofInt IntKind.u32.bits (n:Int)).toNat:Int)=((m ^^^ n:Nat):Int):=by
 have h1:(BitVec.ofInt 32 (m:Int)).toNat=m:=Zi (Nat.lt_of_lt_of_le hm (by decide))
 have h2:(BitVec.ofInt 32 (n:Int)).toNat=n:=Zi (Nat.lt_of_lt_of_le hn (by decide))
 have h3:m ^^^ n < 2 ^ 32:=Nat.xor_lt_two_pow (by omega) (by omega)
 show IntKind.u32.wrap ((BitVec.ofInt 32 (m:Int) ^^^ BitVec.ofInt 32 (n:Int)).toNat:Int)=_
 rw [BitVec.toNat_xor,h1,h2]
 exact IntWalk.u32_in _ (by omega)
theorem ZaQ {m n:Nat} (hm:m < 18446744073709551616) (hn:n < 18446744073709551616):IntKind.u64.wrap ((BitVec.ofInt IntKind.u64.bits (m:Int)&&&BitVec.ofInt IntKind.u64.bits (n:Int)).toNat:Int)=((m&&&n:Nat):Int):=by
 have h1:(BitVec.ofInt 64 (m:Int)).toNat=m:=Zi (Nat.lt_of_lt_of_le hm (by decide))
 have h2:(BitVec.ofInt 64 (n:Int)).toNat=n:=Zi (Nat.lt_of_lt_of_le hn (by decide))
 have h3:m&&&n < 2 ^ 64:=Nat.and_lt_two_pow m (by omega)
 show IntKind.u64.wrap ((BitVec.ofInt 64 (m:Int)&&&BitVec.ofInt 64 (n:Int)).toNat:Int)=_
 rw [BitVec.toNat_and,h1,h2]
 exact IntWalk.u64_in _ (by omega)
theorem ZdN {m n:Nat} (hm:m < 18446744073709551616) (hn:n < 18446744073709551616):IntKind.u64.wrap ((BitVec.ofInt IntKind.u64.bits (m:Int)|||BitVec.ofInt IntKind.u64.bits (n:Int)).toNat:Int)=((m|||n:Nat):Int):=by
 have h1:(BitVec.ofInt 64 (m:Int)).toNat=m:=Zi (Nat.lt_of_lt_of_le hm (by decide))
 have h2:(BitVec.ofInt 64 (n:Int)).toNat=n:=Zi (Nat.lt_of_lt_of_le hn (by decide))
 have h3:m|||n < 2 ^ 64:=Nat.or_lt_two_pow (by omega) (by omega)
 show IntKind.u64.wrap ((BitVec.ofInt 64 (m:Int)|||BitVec.ofInt 64 (n:Int)).toNat:Int)=_
 rw [BitVec.toNat_or,h1,h2]
 exact IntWalk.u64_in _ (by omega)
theorem ZcH {m n:Nat} (hm:m*2 ^ n < 18446744073709551616) (hn:n≤64):IntKind.u64.wrap ((m:Int)*2 ^ (min (n:Int).toNat IntKind.u64.bits))=((m*2 ^ n:Nat):Int):=by
 have h1:min (n:Int).toNat IntKind.u64.bits=n:=by show min (n:Int).toNat 64=n;omega
 rw [h1,show ((m:Int)*2 ^ n)=((m*2 ^ n:Nat):Int) by push_cast;rfl]
 exact IntWalk.u64_in _ (by omega)
theorem Z9y {m n:Nat} (hn:n≤64):(m:Int).fdiv (2 ^ (min (n:Int).toNat IntKind.u64.bits))=((m / 2 ^ n:Nat):Int):=by
 have h1:min (n:Int).toNat IntKind.u64.bits=n:=by show min (n:Int).toNat 64=n;omega
 rw [h1,Int.fdiv_eq_ediv_of_nonneg _ (by have:=Int.pow_pos (n:=(2:Int)) (m:=n) (by decide);omega)]
 push_cast
 rfl
section
variable {q:Mode} {c:Ctx} {ds:List Deferred} {H:List Res} {ops:Array Oper} {l:List Oper} {k:List Item} {κ:List Res→Env→Prop} {dr:Bool} {e:Env} {ty:TypeId} {pos:String} {aft:Array Edge}
theorem T.mv {x:Operand} {d:Tmp} {v:Value} (hx:ev e x=some v) (hlt:Nat.blt d c.fn.ntmps=true) (hk:Sr q c ds H ops l κ ((d,v)::e)):Sr q c ds H ops (⟨some d,.move x,ty,pos,aft,none⟩::l) κ e:=Sr.p (Pu.mv hx) rfl hlt rfl hk
theorem T.asn {x:Operand} {d:Tmp} {v:Value} (hx:ev e x=some v) (hlt:Nat.blt d c.fn.ntmps=true) (hk:Sr q c ds H ops l κ ((d,v)::e)):Sr q c ds H ops (⟨some d,.assign x,ty,pos,aft,none⟩::l) κ e:=Sr.p (Pu.asn hx) rfl hlt rfl hk
theorem T.pickT {x y z:Operand} {d:Tmp} {v:Value} (hx:ev e x=some (.bool true)) (hy:ev e y=some v) (hlt:Nat.blt d c.fn.ntmps=true) (hk:Sr q c ds H ops l κ ((d,v)::e)):Sr q c ds H ops (⟨some d,.pick x y z,ty,pos,aft,none⟩::l) κ e:=Sr.p (Pu.pickT hx hy) rfl hlt rfl hk
theorem T.pickF {x y z:Operand} {d:Tmp} {v:Value} (hx:ev e x=some (.bool false)) (hy:ev e z=some v) (hlt:Nat.blt d c.fn.ntmps=true) (hk:Sr q c ds H ops l κ ((d,v)::e)):Sr q c ds H ops (⟨some d,.pick x y z,ty,pos,aft,none⟩::l) κ e:=Sr.p (Pu.pickF hx hy) rfl hlt rfl hk
theorem T.nilCheck {x:Operand} {d:Tmp} {ad:Addr} (hx:ev e x=some (.pointer (some ad))) (hlt:Nat.blt d c.fn.ntmps=true) (hk:Sr q c ds H ops l κ ((d,.pointer (some ad))::e)):Sr q c ds H ops (⟨some d,.nilCheck x,ty,pos,aft,none⟩::l) κ e:=Sr.p (Pu.nilCheck hx) rfl hlt rfl hk
theorem T.extract {x:Operand} {d i:Tmp} {vs:List Value} {v:Value} (hx:ev e x=some (.tuple ⟨vs⟩)) (hv:vs[i]?=some v) (hlt:Nat.blt d c.fn.ntmps=true) (hk:Sr q c ds H ops l κ ((d,v)::e)):Sr q c ds H ops (⟨some d,.extract x i,ty,pos,aft,none⟩::l) κ e:=Sr.p (Pu.extract hx hv) rfl hlt rfl hk
theorem T.not {x:Operand} {d:Tmp} {t:TypeId} {p:Prop} {_i:Decidable p} (hx:ev e x=some (.bool (decide p))) (hlt:Nat.blt d c.fn.ntmps=true) (hk:Sr q c ds H ops l κ ((d,.bool (decide (¬p)))::e)):Sr q c ds H ops (⟨some d,.unOp .not t x,ty,pos,aft,none⟩::l) κ e:=Sr.p ((show (Value.bool (decide (¬p)))=.bool (!decide p) by simp) ▸ Pu.not hx) rfl hlt rfl hk
theorem T.notB {x:Operand} {d:Tmp} {t:TypeId} {b:Bool} (hx:ev e x=some (.bool b)) (hlt:Nat.blt d c.fn.ntmps=true) (hk:Sr q c ds H ops l κ ((d,.bool (!b))::e)):Sr q c ds H ops (⟨some d,.unOp .not t x,ty,pos,aft,none⟩::l) κ e:=Sr.p (Pu.not hx) rfl hlt rfl hk
theorem T.lss {x y:Operand} {d:Tmp} {t u:TypeId} {kd:IntKind} {m n:Int} (hx:ev e x=some (.int kd m)) (hy:ev e y=some (.int kd n)) (hlt:Nat.blt d c.fn.ntmps=true) (hk:Sr q c ds H ops l κ ((d,.bool (decide (m < n)))::e)):Sr q c ds H ops (⟨some d,.binOp .lss t x y u,ty,pos,aft,none⟩::l) κ e:=Sr.p (Pu.lss hx hy) rfl hlt rfl hk
theorem T.leq {x y:Operand} {d:Tmp} {t u:TypeId} {kd:IntKind} {m n:Int} (hx:ev e x=some (.int kd m)) (hy:ev e y=some (.int kd n)) (hlt:Nat.blt d c.fn.ntmps=true) (hk:Sr q c ds H ops l κ ((d,.bool (decide (m≤n)))::e)):Sr q c ds H ops (⟨some d,.binOp .leq t x y u,ty,pos,aft,none⟩::l) κ e:=Sr.p (Pu.leq hx hy) rfl hlt rfl hk
theorem T.gtr {x y:Operand} {d:Tmp} {t u:TypeId} {kd:IntKind} {m n:Int} (hx:ev e x=some (.int kd m)) (hy:ev e y=some (.int kd n)) (hlt:Nat.blt d c.fn.ntmps=true) (hk:Sr q c ds H ops l κ ((d,.bool (decide (n < m)))::e)):Sr q c ds H ops (⟨some d,.binOp .gtr t x y u,ty,pos,aft,none⟩::l) κ e:=Sr.p (Pu.gtr hx hy) rfl hlt rfl hk
theorem T.geq {x y:Operand} {d:Tmp} {t u:TypeId} {kd:IntKind} {m n:Int} (hx:ev e x=some (.int kd m)) (hy:ev e y=some (.int kd n)) (hlt:Nat.blt d c.fn.ntmps=true) (hk:Sr q c ds H ops l κ ((d,.bool (decide (n≤m)))::e)):Sr q c ds H ops (⟨some d,.binOp .geq t x y u,ty,pos,aft,none⟩::l) κ e:=Sr.p (Pu.geq hx hy) rfl hlt rfl hk
theorem T.eql {x y:Operand} {d:Tmp} {t u:TypeId} {kd:IntKind} {m n:Int} (hx:ev e x=some (.int kd m)) (hy:ev e y=some (.int kd n)) (hlt:Nat.blt d c.fn.ntmps=true) (hk:Sr q c ds H ops l κ ((d,.bool (decide (m=n)))::e)):Sr q c ds H ops (⟨some d,.binOp .eql t x y u,ty,pos,aft,none⟩::l) κ e:=Sr.p (Pu.eql hx hy) rfl hlt rfl hk
theorem T.neq {x y:Operand} {d:Tmp} {t u:TypeId} {kd:IntKind} {m n:Int} (hx:ev e x=some (.int kd m)) (hy:ev e y=some (.int kd n)) (hlt:Nat.blt d c.fn.ntmps=true) (hk:Sr q c ds H ops l κ ((d,.bool (decide (¬m=n)))::e)):Sr q c ds H ops (⟨some d,.binOp .neq t x y u,ty,pos,aft,none⟩::l) κ e:=Sr.p (Pu.neq hx hy) rfl hlt rfl hk
theorem T.addI {x y:Operand} {d:Tmp} {t u:TypeId} {m n:Int} (hx:ev e x=some (.int .i64 m)) (hy:ev e y=some (.int .i64 n)) (hr : -9223372036854775808≤m+n∧m+n≤9223372036854775807) (hlt:Nat.blt d c.fn.ntmps=true) (hk:Sr q c ds H ops l κ ((d,.int .i64 (m+n))::e)):Sr q c ds H ops (⟨some d,.binOp .add t x y u,ty,pos,aft,none⟩::l) κ e:=Sr.p (Pu.add hx hy (IntWalk.i64_in _ hr)) rfl hlt rfl hk
theorem T.subI {x y:Operand} {d:Tmp} {t u:TypeId} {m n:Int} (hx:ev e x=some (.int .i64 m)) (hy:ev e y=some (.int .i64 n)) (hr : -9223372036854775808≤m - n∧m - n≤9223372036854775807) (hlt:Nat.blt d c.fn.ntmps=true) (hk:Sr q c ds H ops l κ ((d,.int .i64 (m - n))::e)):Sr q c ds H ops (⟨some d,.binOp .sub t x y u,ty,pos,aft,none⟩::l) κ e:=Sr.p (Pu.sub hx hy (IntWalk.i64_in _ hr)) rfl hlt rfl hk
theorem T.mulI {x y:Operand} {d:Tmp} {t u:TypeId} {m n:Int} (hx:ev e x=some (.int .i64 m)) (hy:ev e y=some (.int .i64 n)) (hr : -9223372036854775808≤m*n∧m*n≤9223372036854775807) (hlt:Nat.blt d c.fn.ntmps=true) (hk:Sr q c ds H ops l κ ((d,.int .i64 (m*n))::e)):Sr q c ds H ops (⟨some d,.binOp .mul t x y u,ty,pos,aft,none⟩::l) κ e:=Sr.p (Pu.mul hx hy (IntWalk.i64_in _ hr)) rfl hlt rfl hk
theorem T.andU8 {x y:Operand} {d:Tmp} {t u:TypeId} {m n:Nat} (hx:ev e x=some (.int .u8 (m:Int))) (hy:ev e y=some (.int .u8 (n:Int))) (hm:m < 256) (hn:n < 256) (hlt:Nat.blt d c.fn.ntmps=true) (hk:Sr q c ds H ops l κ ((d,.int .u8 ((m&&&n:Nat):Int))::e)):Sr q c ds H ops (⟨some d,.binOp .and t x y u,ty,pos,aft,none⟩::l) κ e:=Sr.p (Pu.and hx hy (Zcp hm hn)) rfl hlt rfl hk
theorem T.orU8 {x y:Operand} {d:Tmp} {t u:TypeId} {m n:Nat} (hx:ev e x=some (.int .u8 (m:Int))) (hy:ev e y=some (.int .u8 (n:Int))) (hm:m < 256) (hn:n < 256) (hlt:Nat.blt d c.fn.ntmps=true) (hk:Sr q c ds H ops l κ ((d,.int .u8 ((m|||n:Nat):Int))::e)):Sr q c ds H ops (⟨some d,.binOp .or t x y u,ty,pos,aft,none⟩::l) κ e:=Sr.p (Pu.or hx hy (ZdM hm hn)) rfl hlt rfl hk
theorem T.shlU8 {x y:Operand} {d:Tmp} {t u:TypeId} {m n:Nat} {kd':IntKind} (hx:ev e x=some (.int .u8 (m:Int))) (hy:ev e y=some (.int kd' (n:Int))) (hm:m*2 ^ n < 256) (hn:n≤8) (hlt:Nat.blt d c.fn.ntmps=true) (hk:Sr q c ds H ops l κ ((d,.int .u8 ((m*2 ^ n:Nat):Int))::e)):Sr q c ds H ops (⟨some d,.binOp .shl t x y u,ty,pos,aft,none⟩::l) κ e:=Sr.p (Pu.shl hx hy (Int.natCast_nonneg n) (ZdF hm hn)) rfl hlt rfl hk
theorem T.shrU8 {x y:Operand} {d:Tmp} {t u:TypeId} {m n:Nat} {kd':IntKind} (hx:ev e x=some (.int .u8 (m:Int))) (hy:ev e y=some (.int kd' (n:Int))) (hn:n≤8) (hlt:Nat.blt d c.fn.ntmps=true) (hk:Sr q c ds H ops l κ ((d,.int .u8 ((m / 2 ^ n:Nat):Int))::e)):Sr q c ds H ops (⟨some d,.binOp .shr t x y u,ty,pos,aft,none⟩::l) κ e:=Sr.p (Pu.shr hx hy (Int.natCast_nonneg n) (ZdD hn)) rfl hlt rfl hk
theorem T.andU64 {x y:Operand} {d:Tmp} {t u:TypeId} {m n:Nat} (hx:ev e x=some (.int .u64 (m:Int))) (hy:ev e y=some (.int .u64 (n:Int))) (hm:m < 18446744073709551616) (hn:n < 18446744073709551616) (hlt:Nat.blt d c.fn.ntmps=true) (hk:Sr q c ds H ops l κ ((d,.int .u64 ((m&&&n:Nat):Int))::e)):Sr q c ds H ops (⟨some d,.binOp .and t x y u,ty,pos,aft,none⟩::l) κ e:=Sr.p (Pu.and hx hy (ZaQ hm hn)) rfl hlt rfl hk
theorem T.orU64 {x y:Operand} {d:Tmp} {t u:TypeId} {m n:Nat} (hx:ev e x=some (.int .u64 (m:Int))) (hy:ev e y=some (.int .u64 (n:Int))) (hm:m < 18446744073709551616) (hn:n < 18446744073709551616) (hlt:Nat.blt d c.fn.ntmps=true) (hk:Sr q c ds H ops l κ ((d,.int .u64 ((m|||n:Nat):Int))::e)):Sr q c ds H ops (⟨some d,.binOp .or t x y u,ty,pos,aft,none⟩::l) κ e:=Sr.p (Pu.or hx hy (ZdN hm hn)) rfl hlt rfl hk
theorem T.shlU64 {x y:Operand} {d:Tmp} {t u:TypeId} {m n:Nat} {kd':IntKind} (hx:ev e x=some (.int .u64 (m:Int))) (hy:ev e y=some (.int kd' (n:Int))) (hm:m*2 ^ n < 18446744073709551616) (hn:n≤64) (hlt:Nat.blt d c.fn.ntmps=true) (hk:Sr q c ds H ops l κ ((d,.int .u64 ((m*2 ^ n:Nat):Int))::e)):Sr q c ds H ops (⟨some d,.binOp .shl t x y u,ty,pos,aft,none⟩::l) κ e:=Sr.p (Pu.shl hx hy (Int.natCast_nonneg n) (ZcH hm hn)) rfl hlt rfl hk
theorem T.shrU64 {x y:Operand} {d:Tmp} {t u:TypeId} {m n:Nat} {kd':IntKind} (hx:ev e x=some (.int .u64 (m:Int))) (hy:ev e y=some (.int kd' (n:Int))) (hn:n≤64) (hlt:Nat.blt d c.fn.ntmps=true) (hk:Sr q c ds H ops l κ ((d,.int .u64 ((m / 2 ^ n:Nat):Int))::e)):Sr q c ds H ops (⟨some d,.binOp .shr t x y u,ty,pos,aft,none⟩::l) κ e:=Sr.p (Pu.shr hx hy (Int.natCast_nonneg n) (Z9y hn)) rfl hlt rfl hk
theorem T.subU8N {x y:Operand} {d:Tmp} {t u:TypeId} {m n:Nat} (hx:ev e x=some (.int .u8 (m:Int))) (hy:ev e y=some (.int .u8 (n:Int))) (hm:n≤m∧m < 256) (hlt:Nat.blt d c.fn.ntmps=true) (hk:Sr q c ds H ops l κ ((d,.int .u8 ((m - n:Nat):Int))::e)):Sr q c ds H ops (⟨some d,.binOp .sub t x y u,ty,pos,aft,none⟩::l) κ e:=Sr.p (Pu.sub hx hy (by rw [IntWalk.u8_in _ (by omega)];omega)) rfl hlt rfl hk
theorem T.addU64N {x y:Operand} {d:Tmp} {t u:TypeId} {m n:Nat} (hx:ev e x=some (.int .u64 (m:Int))) (hy:ev e y=some (.int .u64 (n:Int))) (hm:m+n < 18446744073709551616) (hlt:Nat.blt d c.fn.ntmps=true) (hk:Sr q c ds H ops l κ ((d,.int .u64 ((m+n:Nat):Int))::e)):Sr q c ds H ops (⟨some d,.binOp .add t x y u,ty,pos,aft,none⟩::l) κ e:=Sr.p (Pu.add hx hy (by rw [IntWalk.u64_in _ (by omega)];simp)) rfl hlt rfl hk
theorem T.subU64N {x y:Operand} {d:Tmp} {t u:TypeId} {m n:Nat} (hx:ev e x=some (.int .u64 (m:Int))) (hy:ev e y=some (.int .u64 (n:Int))) (hm:n≤m∧m < 18446744073709551616) (hlt:Nat.blt d c.fn.ntmps=true) (hk:Sr q c ds H ops l κ ((d,.int .u64 ((m - n:Nat):Int))::e)):Sr q c ds H ops (⟨some d,.binOp .sub t x y u,ty,pos,aft,none⟩::l) κ e:=Sr.p (Pu.sub hx hy (by rw [IntWalk.u64_in _ (by omega)];omega)) rfl hlt rfl hk
theorem T.mulU64N {x y:Operand} {d:Tmp} {t u:TypeId} {m n:Nat} (hx:ev e x=some (.int .u64 (m:Int))) (hy:ev e y=some (.int .u64 (n:Int))) (hm:m*n < 18446744073709551616) (hlt:Nat.blt d c.fn.ntmps=true) (hk:Sr q c ds H ops l κ ((d,.int .u64 ((m*n:Nat):Int))::e)):Sr q c ds H ops (⟨some d,.binOp .mul t x y u,ty,pos,aft,none⟩::l) κ e:=Sr.p (Pu.mul hx hy (by rw [IntWalk.u64_in _ (by rw [←Int.natCast_mul];omega)];simp)) rfl hlt rfl hk
theorem T.remU64 {x y:Operand} {d:Tmp} {t u:TypeId} {m n:Nat} (hx:ev e x=some (.int .u64 (m:Int))) (hy:ev e y=some (.int .u64 (n:Int))) (hm:0 < n) (hlt:Nat.blt d c.fn.ntmps=true) (hk:Sr q c ds H ops l κ ((d,.int .u64 ((m % n:Nat):Int))::e)):Sr q c ds H ops (⟨some d,.binOp .rem t x y u,ty,pos,aft,none⟩::l) κ e:=Sr.p (Pu.rem hx hy (by omega) (by rw [Int.tmod_eq_emod_of_nonneg (by omega)];simp)) rfl hlt rfl hk
theorem T.shrGU64 {x y:Operand} {d:Tmp} {t u:TypeId} {m n:Int} {kd':IntKind} (hx:ev e x=some (.int .u64 m)) (hy:ev e y=some (.int kd' n)) (h0:0≤m∧0≤n∧n≤64) (hlt:Nat.blt d c.fn.ntmps=true) (hk:Sr q c ds H ops l κ ((d,.int .u64 ((m.toNat / 2 ^ n.toNat:Nat):Int))::e)):Sr q c ds H ops (⟨some d,.binOp .shr t x y u,ty,pos,aft,none⟩::l) κ e:=Sr.p (Pu.shr hx hy h0.2.1 (by have h1:=Int.toNat_of_nonneg h0.1;have h2:=Int.toNat_of_nonneg h0.2.1;have h3:=Z9y (m:=m.toNat) (n:=n.toNat) (by omega);rw [h1,h2] at h3;exact h3)) rfl hlt rfl hk
theorem T.convI64 {x:Operand} {d:Tmp} {s t:TypeId} {kd:IntKind} {n:Int} {dd:TypeDesc} [HU c.P s dd] [HU c.P t (.int .i64)] (hx:ev e x=some (.int kd n)) (hr : -9223372036854775808≤n∧n≤9223372036854775807) (hlt:Nat.blt d c.fn.ntmps=true) (hk:Sr q c ds H ops l κ ((d,.int .i64 n)::e)):Sr q c ds H ops (⟨some d,.convert s t x,ty,pos,aft,none⟩::l) κ e:=Sr.p (Pu.conv (d:=dd) hx (IntWalk.i64_in _ hr)) rfl hlt rfl hk
theorem T.convU32 {x:Operand} {d:Tmp} {s t:TypeId} {kd:IntKind} {n:Int} {dd:TypeDesc} [HU c.P s dd] [HU c.P t (.int .u32)] (hx:ev e x=some (.int kd n)) (hr:0≤n∧n≤4294967295) (hlt:Nat.blt d c.fn.ntmps=true) (hk:Sr q c ds H ops l κ ((d,.int .u32 n)::e)):Sr q c ds H ops (⟨some d,.convert s t x,ty,pos,aft,none⟩::l) κ e:=Sr.p (Pu.conv (d:=dd) hx (IntWalk.u32_in _ hr)) rfl hlt rfl hk
theorem T.convU64 {x:Operand} {d:Tmp} {s t:TypeId} {kd:IntKind} {n:Int} {dd:TypeDesc} [HU c.P s dd] [HU c.P t (.int .u64)] (hx:ev e x=some (.int kd n)) (hr:0≤n∧n≤18446744073709551615) (hlt:Nat.blt d c.fn.ntmps=true) (hk:Sr q c ds H ops l κ ((d,.int .u64 n)::e)):Sr q c ds H ops (⟨some d,.convert s t x,ty,pos,aft,none⟩::l) κ e:=Sr.p (Pu.conv (d:=dd) hx (IntWalk.u64_in _ hr)) rfl hlt rfl hk
theorem T.convI32 {x:Operand} {d:Tmp} {s t:TypeId} {kd:IntKind} {n:Int} {dd:TypeDesc} [HU c.P s dd] [HU c.P t (.int .i32)] (hx:ev e x=some (.int kd n)) (hr : -2147483648≤n∧n≤2147483647) (hlt:Nat.blt d c.fn.ntmps=true) (hk:Sr q c ds H ops l κ ((d,.int .i32 n)::e)):Sr q c ds H ops (⟨some d,.convert s t x,ty,pos,aft,none⟩::l) κ e:=Sr.p (Pu.conv (d:=dd) hx (IntWalk.i32_in _ hr)) rfl hlt rfl hk
theorem T.len {x:Operand} {d:Tmp} {ad:Option Addr} {n cp:Nat} {t E:TypeId} [HU c.P t (.slice E)] (hx:ev e x=some (.slice ad n cp)) (hlt:Nat.blt d c.fn.ntmps=true) (hk:Sr q c ds H ops l κ ((d,.int .i64 n)::e)):Sr q c ds H ops (⟨some d,.call ⟨.builtin .len,#[x],#[t]⟩,ty,pos,aft,none⟩::l) κ e:=Sr.p (Pu.len hx) rfl hlt rfl hk
theorem T.lenS {x:Operand} {d:Tmp} {s:ByteArray} {t:TypeId} [HU c.P t .string] (hx:ev e x=some (.string s)) (hlt:Nat.blt d c.fn.ntmps=true) (hk:Sr q c ds H ops l κ ((d,.int .i64 s.size)::e)):Sr q c ds H ops (⟨some d,.call ⟨.builtin .len,#[x],#[t]⟩,ty,pos,aft,none⟩::l) κ e:=Sr.p (Pu.lenS hx) rfl hlt rfl hk
theorem T.ixN {x y:Operand} {d:Tmp} {ad:Option Addr} {n cp i:Nat} {kd:IntKind} {t E:TypeId} [HU c.P t (.slice E)] {z:Value} {by_:Nat} [HI c.P E z 1 by_] {vs:List Value} (hx:ev e x=some (.slice ad n cp)) (hy:ev e y=some (.int kd (i:Int))) (hr:Rd c.F c.M H ad vs) (h0:i < n) (hl:i < vs.length) (hlt:Nat.blt d c.fn.ntmps=true) (hk:Sr q c ds H ops l κ ((d,.pointer (eaddr ad i))::e)):Sr q c ds H ops (⟨some d,.indexAddr t x y,ty,pos,aft,none⟩::l) κ e:=Sr.p (Pu.ixN (E:=E) (z:=z) (by_:=by_) hx hy h0 hl) rfl hlt rfl hk
theorem T.ixA {x y:Operand} {d b off n:Nat} {kd:IntKind} {i:Int} {t E:TypeId} [HU c.P t (.array n E)] {z:Value} {sz by_:Nat} [HI c.P E z sz by_] (hx:ev e x=some (.pointer (some ⟨b,off,none⟩))) (hy:ev e y=some (.int kd i)) (h0:0≤i∧i < n) (hlt:Nat.blt d c.fn.ntmps=true) (hk:Sr q c ds H ops l κ ((d,.pointer (some ⟨b,off+i.toNat*sz,none⟩))::e)):Sr q c ds H ops (⟨some d,.indexAddr t x y,ty,pos,aft,none⟩::l) κ e:=Sr.p (Pu.indexAddrA (E:=E) (z:=z) (by_:=by_) hx hy h0) rfl hlt rfl hk
theorem T.load {x:Operand} {d b off:Nat} {t:TypeId} {dd:TypeDesc} [HU c.P t dd] {vs:List Value} {E:TypeId} {v:Value} (hx:ev e x=some (.pointer (some ⟨b,off,none⟩))) (hd:plain dd=true) (hb:InB H b vs E) (hv:vs[off]?=some v) (hlt:Nat.blt d c.fn.ntmps=true) (hk:Sr q c ds H ops l κ ((d,v)::e)):Sr q c ds H ops (⟨some d,.load t x,ty,pos,aft,none⟩::l) κ e:=Sr.p (Pu.load (d:=dd) hx hd hv) rfl hlt rfl hk
theorem T.loadN {x:Operand} {d b off:Nat} {t:TypeId} {dd:TypeDesc} [HU c.P t dd] {z:Value} {n by_:Nat} [HI c.P t z n by_] {vs:List Value} {E:TypeId} (hx:ev e x=some (.pointer (some ⟨b,off,none⟩))) (hd:plain dd=false) (hb:InB H b vs E) (hn:((vs.drop off).take n).length=n) (hlt:Nat.blt d c.fn.ntmps=true) (hk:Sr q c ds H ops l κ ((d,.agg ⟨(vs.drop off).take n⟩)::e)):Sr q c ds H ops (⟨some d,.load t x,ty,pos,aft,none⟩::l) κ e:=Sr.p (Pu.loadN (d:=dd) (z:=z) (by_:=by_) hx hd hn) rfl hlt rfl hk
theorem T.loadB {x:Operand} {d:Tmp} {ad:Option Addr} {j:Nat} {t:TypeId} [HU c.P t (.int .u8)] {xs:List UInt8} (hx:ev e x=some (.pointer (eaddr ad j))) (hr:Rd c.F c.M H ad (xs.map bV)) (hj:j < xs.length) (hlt:Nat.blt d c.fn.ntmps=true) (hk:Sr q c ds H ops l κ ((d,.int .u8 ((xs.getD j 0).toNat))::e)):Sr q c ds H ops (⟨some d,.load t x,ty,pos,aft,none⟩::l) κ e:=Sr.p (Pu.loadB hx hj) rfl hlt rfl hk
theorem T.loadI {x:Operand} {d:Tmp} {ad:Option Addr} {j:Nat} {t:TypeId} [HU c.P t (.int .i64)] {xs:List Int} (hx:ev e x=some (.pointer (eaddr ad j))) (hr:Rd c.F c.M H ad (xs.map iV)) (hj:j < xs.length) (hlt:Nat.blt d c.fn.ntmps=true) (hk:Sr q c ds H ops l κ ((d,.int .i64 (xs.getD j 0))::e)):Sr q c ds H ops (⟨some d,.load t x,ty,pos,aft,none⟩::l) κ e:=Sr.p (Pu.loadI hx hj) rfl hlt rfl hk
theorem T.loadE {x:Operand} {d:Tmp} {ad:Option Addr} {j:Nat} {t:TypeId} {dd:TypeDesc} [HU c.P t dd] {vs:List Value} {v:Value} (hx:ev e x=some (.pointer (eaddr ad j))) (hd:plain dd=true) (hr:Rd c.F c.M H ad vs) (hv:vs[j]?=some v) (hlt:Nat.blt d c.fn.ntmps=true) (hk:Sr q c ds H ops l κ ((d,v)::e)):Sr q c ds H ops (⟨some d,.load t x,ty,pos,aft,none⟩::l) κ e:=Sr.p (Pu.loadE (d:=dd) hx hd hv) rfl hlt rfl hk
theorem T.build {ps:List (Nat × Operand)} {us:List (Nat × Value)} {d:Tmp} {t:TypeId} {fs:Array Field} [HU c.P t (.struct fs)] {z:Value} {sz by_:Nat} [HI c.P t z sz by_] {pl:List (Nat × Nat)} [HPl c.P t pl] {cs:Array Value} (hps:evps e ps=some us) (hf:Instr.fill (pl[·]?) z.cells us=some cs) (hlt:Nat.blt d c.fn.ntmps=true) (hk:Sr q c ds H ops l κ ((d,.agg cs)::e)):Sr q c ds H ops (⟨some d,.build t ps.toArray,ty,pos,aft,none⟩::l) κ e:=Sr.p (Pu.build (fs:=fs) (z:=z) (sz:=sz) (by_:=by_) hps hf) rfl hlt rfl hk
theorem T.buildA {ps:List (Nat × Operand)} {us:List (Nat × Value)} {d:Tmp} {t E n:Nat} [HU c.P t (.array n E)] {z zE:Value} {sz by_ szE byE:Nat} [HI c.P t z sz by_] [HI c.P E zE szE byE] {cs:Array Value} (hps:evps e ps=some us) (hf:Instr.fill (fun i=>some (i*szE,szE)) z.cells us=some cs) (hlt:Nat.blt d c.fn.ntmps=true) (hk:Sr q c ds H ops l κ ((d,.agg cs)::e)):Sr q c ds H ops (⟨some d,.build t ps.toArray,ty,pos,aft,none⟩::l) κ e:=Sr.p (Pu.buildA (n:=n) (E:=E) (z:=z) (zE:=zE) (sz:=sz) (by_:=by_) (byE:=byE) hps hf) rfl hlt rfl hk
def retl (e:Env):List ResultVar→Option (List Value)
 | []=>some []
 | .tmp t::r=>match get? e t with
  | some v=>match retl e r with
   | some vs=>some (v::vs)
   | none=>none
  | none=>none
 | .cell _ _::_=>none
def retv (e:Env):List ResultVar→Option Value
 | [.tmp t]=>get? e t
 | rs=>match retl e rs with
  | some vs=>some (.tuple ⟨vs⟩)
  | none=>none
theorem Z9J {c:Ctx} {H:List Res} {e:Env}:∀ {rs:List ResultVar} {vs:List Value},retl e rs=some vs→RV c H e rs vs
 | [],vs,h=>by simp only [retl,Option.some.injEq] at h;subst h;exact .nil
 | .tmp t::r,vs,h=>by
  simp only [retl] at h
  split at h
  ·rename_i v h1
   split at h
   ·rename_i us h2
    simp only [Option.some.injEq] at h
    subst h
    exact .tmp h1 (Z9J h2)
   ·cases h
  ·cases h
 | .cell _ _::_,vs,h=>by simp [retl] at h
theorem Z7M {e:Env}:∀ {rs:List ResultVar} {vs:List Value},retl e rs=some vs→vs.length=rs.length
 | [],vs,h=>by simp only [retl,Option.some.injEq] at h;subst h;rfl
 | .tmp t::r,vs,h=>by
  simp only [retl] at h
  split at h
  ·rename_i v h1
   split at h
   ·rename_i us h2
    simp only [Option.some.injEq] at h
    subst h
    simp [Z7M h2]
   ·cases h
  ·cases h
 | .cell _ _::_,vs,h=>by simp [retl] at h
theorem Z9I {c:Ctx} {H:List Res} {e:Env} {rs:List ResultVar} {v:Value} (h:retv e rs=some v):∃ vs,RV c H e rs vs∧pack vs=v:=by
 match rs,h with
 | [.tmp t],h=>exact ⟨[v],.tmp h .nil,rfl⟩
 | [],h=>simp only [retv,retl,Option.some.injEq] at h;exact ⟨[],.nil,h⟩
 | [.cell _ _],h=>simp [retv,retl] at h
 | x::y::r,h =>
  have h':(match retl e (x::y::r) with
   | some vs=>some (Value.tuple ⟨vs⟩)
   | none=>none)=some v:=by cases x<;>exact h
  split at h'
  ·rename_i vs h2
   simp only [Option.some.injEq] at h'
   refine ⟨vs,Z9J h2,?_⟩
   have hl:∃ a b q,vs=a::b::q:=by
    have hlen:=Z7M h2
    match vs,hlen with
    | a::b::q,_=>exact ⟨a,b,q,rfl⟩
    | [_],h=>simp at h
    | [],h=>simp at h
   obtain ⟨a,b,q,rfl⟩:=hl
   exact h'
  ·cases h'
theorem T.ret {v:Value} [hf:HFn c.P c.f c.fn] (hv:retv e c.fn.results.toList=some v) (hp:c.post (.returned v) H):S c [] H (.code .ret::k) e:=by
 obtain ⟨vs,h1,h2⟩:=Z9I (c:=c) (H:=H) hv
 subst h2
 exact S.ret hf.h (rs:=c.fn.results.toList) (by simp) h1 hp
theorem T.done {v:Value} [hf:HFn c.P c.f c.fn] (hv:retv e c.fn.results.toList=some v) (hp:c.post (.returned v) H):S c [] H [] e:=by
 obtain ⟨vs,h1,h2⟩:=Z9I (c:=c) (H:=H) hv
 subst h2
 exact S.done hf.h (rs:=c.fn.results.toList) (by simp) h1 hp
theorem T.dies {chain:List PanicEntry} (hp:c.post (.panicked chain) H):D c dr [] H chain e:=D.end hp
theorem T.store {x y:Operand} {b i:Nat} {t:TypeId} {z:Value} {by_:Nat} [HI c.P t z 1 by_] {vs:List Value} {E:TypeId} {v:Value} {f:Res→List Res} (hx:ev e x=some (.pointer (some ⟨b,i,none⟩))) (hy:ev e y=some v)
  (hb:AtB H b vs E f) (hi:i < vs.length) (hv:v.oneCell'=true) (hk:Sr (.eff dr) c ds (f (.blk b (vs.set i v) E)) ops l κ e):Sr (.eff dr) c ds H ops (⟨none,.store t x y,ty,pos,aft,none⟩::l) κ e:=Sr.store hx hy hi hv hk
class HZ (P:Program) (E:TypeId) (vs:outParam (List Value)):Prop where
 h:∃ z sz b,HI P E z sz b∧z.cells.toList=vs
theorem T.alloc {d:Tmp} {E:TypeId} {vs:List Value} [hz:HZ c.P E vs] (hlt:Nat.blt d c.fn.ntmps=true) (hk:∀ b,Sr (.eff dr) c ds (.blk b vs E::H) ops l κ ((d,.pointer (some ⟨b,0,none⟩))::e)):Sr (.eff dr) c ds H ops (⟨some d,.alloc E,ty,pos,aft,none⟩::l) κ e:=by
 obtain ⟨z,sz,b,hi,hv⟩:=hz.h
 subst hv
 exact Sr.alloc (z:=z) (sz:=sz) (by_:=b) hlt hk
theorem T.box {d:Tmp} {E:TypeId} {x:Operand} {vs:List Value} (hx:ev e x=some (.agg ⟨vs⟩)) (hlt:Nat.blt d c.fn.ntmps=true) (hk:∀ b,Sr (.eff dr) c ds (.blk b vs E::H) ops l κ ((d,.pointer (some ⟨b,0,none⟩))::e)):Sr (.eff dr) c ds H ops (⟨some d,.box E x,ty,pos,aft,none⟩::l) κ e :=
 Sr.box hx hlt hk
theorem Z8b:∀ (us pre:List Value) (post:List Value),us.length=post.length→us.all (·.oneCell')=true→Instr.fill (fun i=>some (i*1,1)) ⟨pre++post⟩ ((us.zipIdx pre.length).map fun p=>(p.2,p.1))=some ⟨pre++us⟩
 | [],pre,post,h,_=>by
  have:post=[]:=List.eq_nil_of_length_eq_zero h.symm
  subst this
  simp [Instr.fill]
 | u::r,pre,post,h,h1=>by
  cases post with
  | nil=>simp at h
  | cons q post =>
   simp only [List.all_cons,Bool.and_eq_true] at h1
   have hc:u.cells=#[u]:=by
    have:=h1.1
    cases u<;>simp_all [Value.cells,Value.oneCell']
   have ih:=Z8b r (pre++[u]) post (by simpa using h) h1.2
   simp only [List.zipIdx_cons,List.map_cons,Instr.fill,hc]
   rw [if_neg (by simp)]
   simp only [List.length_append,List.length_singleton] at ih
   have hset:(Array.foldl (fun cs x=>cs.setIfInBounds (pre.length*1+x.2) x.1) (⟨pre++q::post⟩:Array Value) (#[u].zipIdx))=⟨pre++[u]++post⟩:=by
    simp
   simp only [hset]
   simpa using ih
theorem T.bs {d:Tmp} {us:List Value} {t E:TypeId} [HU c.P t (.slice E)] {z:Value} {by_:Nat} [HI c.P E z 1 by_] {ps:List (Nat × Operand)} {n:Nat} (hps:ps=((ps.map (·.2)).zipIdx.map fun p=>(p.2,p.1))) (hxs:evs e (ps.map (·.2))=some us) (hone:us.all (·.oneCell')=true) (hn:us.length=n) (hsm:Nat.ble n 16777216=true) (hlt:Nat.blt d c.fn.ntmps=true)
  (hk:∀ b,Sr (.eff dr) c ds (.blk b us E::H) ops l κ ((d,.slice (some ⟨b,0,none⟩) n n)::e)):Sr (.eff dr) c ds H ops (⟨some d,.buildSlice t n ps.toArray,ty,pos,aft,none⟩::l) κ e:=by
 subst hn
 rw [hps]
 generalize ps.map (·.2)=xs at hxs
 have key:∀ (xs:List Operand) (us:List Value) (j:Nat),evs e xs=some us→evps e ((xs.zipIdx j).map fun p=>(p.2,p.1))=some ((us.zipIdx j).map fun p=>(p.2,p.1)):=by
  intro xs
  induction xs with
  | nil=>intro us j h;simp only [evs,Option.some.injEq] at h;subst h;rfl
  | cons x r ih =>
   intro us j h
   simp only [evs] at h
   split at h
   ·rename_i v h1
    split at h
    ·rename_i vs h2
     simp only [Option.some.injEq] at h
     subst h
     simp only [List.zipIdx_cons,List.map_cons,evps,h1,ih vs (j+1) h2]
    ·cases h
   ·cases h
 refine Sr.buildSlice (us:=(us.zipIdx.map fun p=>(p.2,p.1))) (cs:=⟨us⟩) (z:=z) (sz:=1) (by_:=by_) (key xs us 0 hxs) (by rw [Nat.mul_one];exact hsm) hlt ?_ hk
 exact Z8b us [] ((Array.range (us.length*1)).map (z.cells[· % z.cells.size]!)).toList (by simp) hone
theorem T.append {d:Tmp} {x y:Operand} {ad:Option Addr} {n cp m b t E Eb sz:Nat} [HU c.P t (.slice E)] {z:Value} {by_:Nat} [HI c.P E z sz by_] {xs us:List Value} {f:Res→List Res} (hx:ev e x=some (.slice ad n cp)) (hy:ev e y=some (.slice (some ⟨b,0,none⟩) m m))
  (hr:AtR H ad cp E sz n xs f) (hus:us.length=m*sz) (hone:us.all (·.oneCell')=true) (hzs:z.cells.size=sz) (hsz:Nat.blt 0 sz=true) (hroom:(n+m)*by_≤140737488355328∧n+m≤140737488355328) (hlt:Nat.blt d c.fn.ntmps=true)
  (hk:∀ ad' cp',Sr (.eff dr) c ds (f (.row ad' cp' E sz (n+m) (xs++us))) ops l κ ((d,.slice ad' (n+m) cp')::e)) :
  Sr (.eff dr) c ds (.blk b us Eb::H) ops (⟨some d,.call ⟨.builtin .append,#[x,y],#[t,t]⟩,ty,pos,aft,none⟩::l) κ e:=Sr.append (z:=z) (by_:=by_) hx hy hus hone hzs (by simpa [Nat.blt_eq] using hsz) hroom hlt hk
theorem T.makeI {x:Operand} {d:Tmp} {v:Value} {t:TypeId} {dd:TypeDesc} [HU c.P t dd] (hx:ev e x=some v) (hd:Z4R dd=true) (hlt:Nat.blt d c.fn.ntmps=true) (hk:Sr q c ds H ops l κ ((d,.iface t v)::e)):Sr q c ds H ops (⟨some d,.makeInterface t x,ty,pos,aft,none⟩::l) κ e:=Sr.p (Pu.makeI (dd:=dd) hx hd) rfl hlt rfl hk
theorem T.panic {x:Operand} {t:TypeId} {v:Value} (hx:ev e x=some (.iface t v)) (hk:D c dr ds H [⟨.iface t v,false,false⟩] e):Sr (.eff dr) c ds H ops (⟨none,.panic x,ty,pos,aft,none⟩::l) κ e:=Sr.panic hx hk
theorem T.call {d:Tmp} {args:List Operand} {ats:Array TypeId} {g:FuncId} {vs:List Value} {post:Ending→List Res→Prop} [HF c.P g] (hargs:evs e args=some vs) (hlt:Nat.blt d c.fn.ntmps=true) (hsp:Meets c.P g vs c.F c.M H post)
  (hk:∀ en H',post en H'→After c dr ds H' ops l κ e d en):Sr (.eff dr) c ds H ops (⟨some d,.call ⟨.value (.func g),args.toArray,ats⟩,ty,pos,aft,none⟩::l) κ e:=Sr.call hargs hlt hsp hk
theorem T.ofRet {d:Tmp} {v:Value} (h:Sr (.eff dr) c ds H ops l κ ((d,v)::e)):After c dr ds H ops l κ e d (.returned v):=h
theorem T.ofPan {d:Tmp} {chain:List PanicEntry} (h:D c dr ds H chain e):After c dr ds H ops l κ e d (.panicked chain):=h

theorem T.ungV [NotUni q] {o:Op} {d:Option Tmp} {j:Nat} {b b':Bool} (h:glook ops e j=some b') (hb:b'=b) (hk:Sr q c ds H ops (⟨d,o,ty,pos,aft,none⟩::l) κ e):Sr q c ds H ops (⟨d,o,ty,pos,aft,some (j,b)⟩::l) κ e:=Sr.ung (hb ▸ h) hk
theorem S.condTV {x:Operand} {thn els:Code} {v:Bool} (hx:ev e x=some (.bool v)) (hv:v=true) (ht:S c ds H (.code thn::k) e):S c ds H (.code (.cond x thn els)::k) e:=S.cond (hv ▸ hx) (fun _=>ht) (fun h=>by cases h)
theorem S.condFV {x:Operand} {thn els:Code} {v:Bool} (hx:ev e x=some (.bool v)) (hv:v=false) (hf:S c ds H (.code els::k) e):S c ds H (.code (.cond x thn els)::k) e:=S.cond (hv ▸ hx) (fun h=>by cases h) (fun _=>hf)
theorem T.ung [NotUni q] {o:Op} {d:Option Tmp} {j:Nat} {b:Bool} (h:glook ops e j=some b) (hk:Sr q c ds H ops (⟨d,o,ty,pos,aft,none⟩::l) κ e):Sr q c ds H ops (⟨d,o,ty,pos,aft,some (j,b)⟩::l) κ e:=Sr.ung h hk
theorem T.skip [NotUni q] {o:Op} {d:Tmp} {j:Nat} {b b':Bool} (h:glook ops e j=some b') (hne:(b'==b)=false) (hlt:Nat.blt d c.fn.ntmps=true) (hk:Sr q c ds H ops l κ ((d,undef)::e)):Sr q c ds H ops (⟨some d,o,ty,pos,aft,some (j,b)⟩::l) κ e:=Sr.gf rfl hlt rfl h hne hk
theorem T.gcase [NotUni q] {o:Op} {d:Option Tmp} {j t:Nat} {b:Bool} {p:Prop} {_i:Decidable p} (hj:(ops[j]?).bind (·.dst)=some t) (h:get? e t=some (.bool (decide p)))
  (ht:p→Sr q c ds H ops (⟨d,o,ty,pos,aft,some (j,b)⟩::l) κ ((t,.bool true)::e)) (hf:¬p→Sr q c ds H ops (⟨d,o,ty,pos,aft,some (j,b)⟩::l) κ ((t,.bool false)::e)):Sr q c ds H ops (⟨d,o,ty,pos,aft,some (j,b)⟩::l) κ e:=by
 have _t:=hj
 exact Sr.case t h ht hf
theorem S.condQ {x:Operand} {thn els:Code} {p:Prop} {_i:Decidable p} (hx:ev e x=some (.bool (decide p))) (ht:p→S c ds H (.code thn::k) e) (hf:¬p→S c ds H (.code els::k) e):S c ds H (.code (.cond x thn els)::k) e:=S.condP hx ht hf
theorem S.condT {x:Operand} {thn els:Code} (hx:ev e x=some (.bool true)) (ht:S c ds H (.code thn::k) e):S c ds H (.code (.cond x thn els)::k) e:=S.cond hx (fun _=>ht) (fun h=>by cases h)
theorem S.condF {x:Operand} {thn els:Code} (hx:ev e x=some (.bool false)) (hf:S c ds H (.code els::k) e):S c ds H (.code (.cond x thn els)::k) e:=S.cond hx (fun h=>by cases h) (fun _=>hf)
end
end Sg
