/- law01.SameCheckpoint of the same, without extra lines, by contract. cartularyref03.follows, First by contracts. -/
import Derived.Test.YtjnjpgdoncbahaaGreatDoorHEq
import Derived.Test.YtjnjpgdoncbahaaGreatDoorApD
import Derived.Test.YtjnjpgdoncbahaaGreatDoorTxt
import Derived.Test.YtjnjpgdoncbahaaGreatDoorRune
import Derived.Test.YtjnjpgdoncbahaaGreatDoorGrW
import Derived.Test.YtjnjpgdoncbahaaGreatDoorShaD
namespace Go.Proofs.YtjnjpgdoncbahaaGreatDoor
open Go.RowKit Go.Lib
end Go.Proofs.YtjnjpgdoncbahaaGreatDoor
