/- What cartularyref25.Grow lays is what the growth of the program lays: plain law. The edges that cartularyref25.Grow makes lie as edges do; what it lays is what the growth lays. How many puts an append has: plain law. The document's edges in memory. The statements' TwinHashes, for seats without the wire: cut of the texts Twin, Twin2. PRINTED by a program of ours. The statements' markHashList by contract. The first edges copied into a row: what a loop that copies them keeps; what its region's slots hold. What Resume's contract needs of plain lists: edges that fit, a checkpoint's cells. writer.fits by contract. slices.Clone of hashes that lie anywhere, by contract. writer.Resume, by contract: what it may (without its refusals). PRINTED by wip/tools/gen_wrs.py. -/
import Derived.Test.YtjnjpgdoncbahaaGreatDoorRefTr
import Derived.Test.YtjnjpgdoncbahaaGreatDoorWrN
import Derived.Test.YtjnjpgdoncbahaaGreatDoorRefGr
import Derived.Test.YtjnjpgdoncbahaaGreatDoorHEq
import Derived.OwnWalk
import Derived.Test.YtjnjpgdoncbahaaGreatDoorHab
import Derived.Test.YtjnjpgdoncbahaaGreatDoorNaive
namespace Go.Proofs.YtjnjpgdoncbahaaGreatDoor
open Go.RowKit Go.Lib
section
variable {L:List Oper} {K:List Nat} {F:List (Value⊕(Value→World→Prop))} {a0:Act} {i:Nat} {o:Oper} {W:World} {ev:Value}
end
end Go.Proofs.YtjnjpgdoncbahaaGreatDoor
