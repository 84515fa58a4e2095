/- A store that is not there, and one that no call made: every function by a contract. PRINTED by wip/tools/gen_stnone.py. -/
import Derived.Test.YtnkcfkjeeennmaaGreatDoorTxt
namespace Go.Proofs.YtnkcfkjeeennmaaGreatDoor
open Go.RowKit Go.Lib Go.Sort
end Go.Proofs.YtnkcfkjeeennmaaGreatDoor
