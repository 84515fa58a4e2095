/- The document's first rune is the model's: plain mathematics on bytes. cartularyref03.Control, Blank, clear, Name by contracts. PRINTED by wip/tools/gen_refn.py. cartularyref03.Base64 by contract. PRINTED by wip/tools/gen_refb.py. cartularyref11.threes, Name by contracts. cartularyref21.Format of a checkpoint without extra lines, by contract. -/
import Derived.Test.YtjnjpgdoncbahaaGreatDoorSameCk
import Derived.Test.YtjnjpgdoncbahaaGreatDoorTree
import Derived.Test.YtjnjpgdoncbahaaGreatDoorAgg
import Derived.Test.YtjnjpgdoncbahaaGreatDoorEmitAdd
import Derived.Test.YtjnjpgdoncbahaaGreatDoorApD
import Derived.Test.YtjnjpgdoncbahaaGreatDoorHab
import Derived.Test.YtjnjpgdoncbahaaGreatDoorWrN
import Derived.Test.YtjnjpgdoncbahaaGreatDoorDec
import Derived.Test.YtjnjpgdoncbahaaGreatDoorCode
namespace Go.Proofs.YtjnjpgdoncbahaaGreatDoor
open Go.RowKit Go.Lib
set_option maxRecDepth 20000
set_option maxHeartbeats 8000000
variable {P:Program}{a:Act}{o:Oper}
theorem run_two(w:World)(t e:TypeId)(ie:TypeInfo)(hu:P.underlying t=some (.slice e))(hq:P.info? e=some ie)(hz:ie.zero=some (.int .u8 0))(hs:ie.size=1)(a b:UInt8):
 (Instr.buildSlice t 2 #[(0,u8v a),(1,u8v b)]).run P w= .ok (.slice (some ⟨w.heap.size,0,none⟩) 2 2) (w.alloc (.cells #[u8v a,u8v b] e)):=by
 cases ie
 simp only at hs hz;subst hs;refine run_buildSlice (P:=P) w t e 2 _ #[u8v a,u8v b] _ (.int .u8 0) hu hq hz (by simp) (by simp) ?_;simp[Instr.fill,Value.cells,Array.range];rfl
theorem exec_bs(w:World){w':World}{t:TypeId}{n:Nat}(l:List (Nat×Operand))(ho:o.op= .buildSlice t n l.toArray)(vals:List (Nat×Value))(v:Value)(hp:l.map (fun x=> (x.1,a.eval x.2))=vals)(hr:(Instr.buildSlice t n vals.toArray).run P w= .ok v w'):(execOp a.eval o).run P w= .ok (.value v) w':=by
 have hp2:(l.toArray.map fun (i,x)=> (i,a.eval x))=vals.toArray:=by rw[←hp,List.map_toArray]
 simp only[execOp,ho,hp2,Sem.run_bind,hr,Result.andThen_ok];rfl
theorem run_convB(w:World){x:Operand}(ho:o.op= .convert 50 9 x){B:Nat}(v:Value)(xs:List UInt8)(hx:a.eval x=v)(h:w.ownsRow B 5 1 v xs.length (xs.map u8v)):(execOp a.eval o).run Tryz.prog w= .ok (.value (.string (str xs))) w:=by simp only[execOp,ho,hx,Sem.run_bind,run_str_own w h,Result.andThen_ok];rfl
end Go.Proofs.YtjnjpgdoncbahaaGreatDoor
