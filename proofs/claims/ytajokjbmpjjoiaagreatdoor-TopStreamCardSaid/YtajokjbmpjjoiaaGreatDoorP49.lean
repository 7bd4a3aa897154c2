import Derived.JoinedOf
import Derived.ProofKit
import Derived.SevenTiedAt
import Derived.Test.YtajokjbmpjjoiaaGreatDoorCards
import Derived.Test.YtajokjbmpjjoiaaGreatDoorRows
set_option maxRecDepth 20000
set_option maxHeartbeats 0
namespace Go.Proofs.YtajokjbmpjjoiaaGreatDoor
section
open Go.RowKit
theorem atP:((Rows.topStreamRow.inPlace==Tryz.prog.inPlace 3)&&(Rows.topStreamRow.unfollowed==Tryz.prog.unfollowed 3)&&(Rows.topStreamRow.recurses==Tryz.prog.recurses 3)&&(Rows.topStreamRow.named==Tryz.prog.varsNamed 3))=true:=by kernel_rfl
theorem atQ:mapsRowed Tryz.prog=true:=by kernel_rfl
theorem atS:Tryz.prog.stopsHeard=true:=by kernel_rfl
theorem atT:Tryz.prog.mayEnter=true:=by kernel_rfl
theorem afY:Tryz.prog.funcNamed Rows.topStreamRow.func=some 3:=by kernel_rfl
theorem atU:(false==Tryz.prog.looks [])=true:=by kernel_rfl
theorem atV:(false==Rows.topStreamRow.goesBy Tryz.prog)=true:=by kernel_rfl
