/-
  The walks of sledgeref01.PutAll, enc.TakeNum, sledgeref01.TakeNum, the texts, Fixed and Take.
-/
import Derived.Test.YtbgnbkomckbckaaEncB
namespace Go.Proofs.Ytbgnbkomckbckaa
open Go.RowKit


end Go.Proofs.Ytbgnbkomckbckaa
