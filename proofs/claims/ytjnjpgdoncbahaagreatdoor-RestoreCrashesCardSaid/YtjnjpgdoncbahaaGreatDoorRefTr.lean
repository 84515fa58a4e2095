/- cartularyref25.whole, cartularyref10.Fold, cartularyref01.Powers by contracts. cartularyref01.Powers, cartularyref25.Root by contracts. cartularyref25.Root by contract. PRINTED by wip/tools/gen_rroot.py. Rows of hashes that lie anywhere, in blocks of hashes: plain lemmas on memory, for cartularyref25.Grow. cartularyref25.Fits by contract. -/
import Derived.Test.YtjnjpgdoncbahaaGreatDoorRefFP
import Derived.Test.YtjnjpgdoncbahaaGreatDoorTileH
import Derived.Test.YtjnjpgdoncbahaaGreatDoorApD
import Derived.Test.YtjnjpgdoncbahaaGreatDoorGrW
import Derived.Test.YtjnjpgdoncbahaaGreatDoorGrT
import Derived.Test.YtjnjpgdoncbahaaGreatDoorTree
namespace Go.Proofs.YtjnjpgdoncbahaaGreatDoor
open Go.RowKit Go.Lib
section
variable {P:Program} {o:Oper} {a:Act}
end
def fitsB:Nat→List (List HB)→Bool
 | n,[]=> n==0
 | n,e::es=> n !=0 && (e.length==n % 256 && fitsB (n / 256) es)
theorem fitsB_iff:∀(es:List (List HB)) (n:Nat),fitsB n es=true↔fitsP n es
 | [],n=> by simp[fitsB,fitsP]
 | e::es,n=> by simp[fitsB,fitsP,fitsB_iff es]
end Go.Proofs.YtjnjpgdoncbahaaGreatDoor
