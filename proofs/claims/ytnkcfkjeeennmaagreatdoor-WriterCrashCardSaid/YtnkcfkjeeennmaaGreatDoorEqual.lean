/- Things and hashes compared with themselves. -/
import Derived.Test.YtnkcfkjeeennmaaGreatDoorArgs
import Derived.DeepKeys
import Derived.Laws.StructEq
namespace Go.Proofs.YtnkcfkjeeennmaaGreatDoor
open Go.ChangeShapes Go.WideShapes Go.ChangeAt Go.RowKit Go.Lib Go.Deep
theorem u8_wf(b:UInt8):(Lit.int .u8 (b.toNat:Int)).wf=true:=by have:=b.toNat_lt;simp[Lit.wf,IntKind.min,IntKind.max,IntKind.signed,IntKind.bits];omega
theorem i64_wf{n:Int}(h1: -9223372036854775808≤n)(h2:n≤9223372036854775807):(Lit.int .i64 n).wf=true:=by simp[Lit.wf,IntKind.min,IntKind.max,IntKind.signed,IntKind.bits];omega
theorem u64_wf{n:Nat}(h:n < 18446744073709551616):(Lit.int .u64 (n:Int)).wf=true:=by simp[Lit.wf,IntKind.min,IntKind.max,IntKind.signed,IntKind.bits];omega
theorem guard_hash:Tryz.prog.eqGuardType Tryz.prog.depth 30=false:=by kernel_rfl
theorem key_hash:Tryz.prog.keyTypeAt 5 30=true:=by kernel_rfl
section
variable {P:Program} {w:World}
end
end Go.Proofs.YtnkcfkjeeennmaaGreatDoor
