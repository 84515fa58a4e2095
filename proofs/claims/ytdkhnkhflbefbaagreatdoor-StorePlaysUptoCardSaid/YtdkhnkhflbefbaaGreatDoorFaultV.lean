/- The references' faults as values. -/
import Derived.Test.YtdkhnkhflbefbaaGreatDoorCode
namespace Go.Proofs.YtdkhnkhflbefbaaGreatDoor
open Go.RowKit Go.Lib

def faultC : EV → Int
  | none => 0
  | some (k, _) => k
def faultA : EV → Int
  | none => 0
  | some (_, none) => -1
  | some (_, some n) => n
abbrev faultV (x : EV) : Value := .agg #[.int .i64 (faultC x), .int .i64 (faultA x)]
end Go.Proofs.YtdkhnkhflbefbaaGreatDoor
