import Derived.Test.YtajokjbmpjjoiaaGreatDoorP01
import Derived.Test.YtajokjbmpjjoiaaGreatDoorProg
set_option maxRecDepth 20000
set_option maxHeartbeats 0
namespace Go.Proofs.YtajokjbmpjjoiaaGreatDoor
section
namespace Ev
def afS (v:V3)(_:S):Bool:=match v with
 | .v (.o (.t b))=>b
 |_=>false
set_option maxRecDepth 100000 in
theorem ath:P7 Tryz.prog known 2000 (.call 8 [] {h:=.e,n:=0} afS)=true:=ah
end Ev
