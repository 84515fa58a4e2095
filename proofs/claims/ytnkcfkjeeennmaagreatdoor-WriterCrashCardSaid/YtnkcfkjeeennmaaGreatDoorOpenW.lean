/- An argument of texts, opened. -/
import Derived.Test.YtnkcfkjeeennmaaGreatDoorArgs
import Derived.Test.YtnkcfkjeeennmaaGreatDoorTxt
namespace Go.Proofs.YtnkcfkjeeennmaaGreatDoor
open Go.ChangeShapes Go.WideShapes Go.ChangeAt Go.RowKit Go.Lib Go.Deep
section
variable {H:Type} {enc:TypeId×Value→H} {w:World}
end
end Go.Proofs.YtnkcfkjeeennmaaGreatDoor
