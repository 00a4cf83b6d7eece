/- Lemmas that the last text leans on. -/
import Derived.Test.YtigfcihakghddaaGreatDoorFoldInts
set_option linter.all false
namespace Go.Proofs.YtigfcihakghddaaGreatDoor.FoldAmong
open Go.RowKit FoldP FoldInts Kit
end Go.Proofs.YtigfcihakghddaaGreatDoor.FoldAmong
