/-
  The law JournalPuts: the walk.
-/
import Derived.Test.YtaagdoaeefhleaaDoorP9
import Derived.Test.YtaagdoaeefhleaaDoorP2
namespace Go.Proofs.YtaagdoaeefhleaaDoor
open Go.RowKit

theorem light_is (id : Int) (sa : ByteArray) (n bs raw : Int) (ro ta : ByteArray) (ba : Int) (b : Bool) (h : lightB sa ro ta = b) (w : World) :
    Calls Tryd.prog 5 #[.agg #[.int .i64 id, .string sa, .int .i64 n, .int .i64 bs, .int .i64 raw, .string ro, .string ta, .int .i64 ba]] w fun e w' => e = .returned (.bool b) ∧ Below w.heap.size w w' := by subst h; exact light_any id sa n bs raw ro ta ba w

end Go.Proofs.YtaagdoaeefhleaaDoor
