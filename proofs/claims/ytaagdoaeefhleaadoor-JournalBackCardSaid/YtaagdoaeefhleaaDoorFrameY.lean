/-
  From the row's premises to a walk's: a byte.
-/
import Derived.Test.YtaagdoaeefhleaaDoorP2
namespace Go.Proofs.YtaagdoaeefhleaaDoor
open Go.ChangeShapes Go.WideShapes Go.ChangeAt Go.RowKit

section
variable {H : Type} {enc : TypeId × Value → H} {w : World} {b0 : Nat} {v : Value} {d : DataW H} {p : List MemPlace} {ts : List TypeId} {ds : List (DataW H)}
/-- A byte. -/
theorem arg_byte (hval : Value.okWide Tryd.prog w .any b0 5 v) (h : DataW.Trod enc Tryd.prog w 0 (fun _ => true) true 5 v d p) (_hsz : (DataW.weightsEach Tryd.prog ts ds).all (· ≤ reachBytes) = true) (j : Nat) (_ht : ts[j]? = some 5) (_hd : ds[j]? = some d) :
    ∃ n : Int, v = .int .u8 n ∧ 0 ≤ n ∧ n ≤ 255 := by
  obtain ⟨n, rfl, rfl, rfl, wn⟩ := open_int Tryd.underlying5 hval h
  refine ⟨n, rfl, ?_⟩
  simp [Lit.wf, IntKind.min, IntKind.max, IntKind.signed, IntKind.bits] at wn
  omega
end
end Go.Proofs.YtaagdoaeefhleaaDoor
