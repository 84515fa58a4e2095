/- cartularyref25.Grow by contract. PRINTED by wip/tools/gen_rgrow.py. -/
import Derived.Test.YtjnjpgdoncbahaaGreatDoorRefTr
namespace Go.Proofs.YtjnjpgdoncbahaaGreatDoor
open Go.RowKit Go.Lib
end Go.Proofs.YtjnjpgdoncbahaaGreatDoor
