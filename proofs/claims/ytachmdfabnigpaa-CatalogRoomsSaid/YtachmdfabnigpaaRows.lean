/-
  No cell of these rows narrows 'for every input' (looked for: loops, veiled, ifaces, maps, wideKeys, modest, calm, conditions, laid).
  DERIVED. THE GIVEN ROWS OF THIS SEAT. 3 by the template 'for every input the law returns true; each argument reads behind the call as it read before'; 0 by the template 'total and deterministic' (their statements: YtachmdfabnigpaaTotals.lean).
  GIVEN WITH THE SEED: the statements are not yours to turn. If you find one false, say at which input.
  Laid BY PROGRAM, IN A SANDBOX (cutbox-rows.mjs): the forced cells as the released guide's own fill.sh prints them over the translation b5c861a625042371… (all of the seat's roots in one cut). By AI agents, Wed Nov 11 2026. No macro, syntax, notation, axiom, sorry.
-/
import Derived.Test.YtachmdfabnigpaaChecked
import GoSem.Claim
import GoSem.ClaimJoined
import GoSem.ClaimMapViews
import Derived.JoinedTies
import Derived.KernelRfl
namespace Go.Proofs.Ytachmdfabnigpaa
/- THE CELL 'sum', in the pinned program and in every row, IS THE sha256 OF THE DUMP (.gsa) THAT YtachmdfabnigpaaProg.lean LOADS. Nothing in Lean hashes anything: it is a label: what it is worth is what the hold of that sum in a sandbox is worth. -/
noncomputable def Try.pinned : Pinned := { name := "ytachmdfabnigpaa", sum := "b5c861a6250423715023d41427c9ef40d49624ec5857d0511b7fa938af6140f5", checked := Try.checked }
namespace Rows
def none {H : Type} : Left H := { results := [], args := [] }

/-- 'sledgelaw24.CatalogPuts': WHATEVER THE INPUT: true; the input reads as it did. -/
def catalogPutsSpec : ChangeSpec := { name := "catalogPuts", fn := fun _ => fun
  | [d] => { results := [.lit (.bool true)], args := [d] }
  | _ => none }
def catalogPutsRow : OpenClaim := { program := "ytachmdfabnigpaa", sum := "b5c861a6250423715023d41427c9ef40d49624ec5857d0511b7fa938af6140f5", func := "sledge/sledgelaw24.CatalogPuts", spec := "catalogPuts", unfollowed := true, recurses := true, apart := false }
def CatalogPutsSaid : Prop := catalogPutsRow.holds Try.pinned (OpenSpec.ofChange catalogPutsSpec)

/-- ITS FALSE NEIGHBOUR: 'it returns false'. Refute it at one input. -/
def catalogPutsWrong : ChangeSpec := { name := "catalogPuts", fn := fun _ => fun
  | [d] => { results := [.lit (.bool false)], args := [d] }
  | _ => none }
def CatalogPutsWrongFalsely : Prop := catalogPutsRow.holds Try.pinned (OpenSpec.ofChange catalogPutsWrong)

/-- 'sledgelaw24.CatalogRooms': WHATEVER THE INPUT: true; the input reads as it did. -/
def catalogRoomsSpec : ChangeSpec := { name := "catalogRooms", fn := fun _ => fun
  | [d1, d2, d3, d4] => { results := [.lit (.bool true)], args := [d1, d2, d3, d4] }
  | _ => none }
def catalogRoomsRow : OpenClaim := { program := "ytachmdfabnigpaa", sum := "b5c861a6250423715023d41427c9ef40d49624ec5857d0511b7fa938af6140f5", func := "sledge/sledgelaw24.CatalogRooms", spec := "catalogRooms", unfollowed := true, recurses := true, apart := false }
def CatalogRoomsSaid : Prop := catalogRoomsRow.holds Try.pinned (OpenSpec.ofChange catalogRoomsSpec)

/-- ITS FALSE NEIGHBOUR: 'it returns false'. Refute it at one input. -/
def catalogRoomsWrong : ChangeSpec := { name := "catalogRooms", fn := fun _ => fun
  | [d1, d2, d3, d4] => { results := [.lit (.bool false)], args := [d1, d2, d3, d4] }
  | _ => none }
def CatalogRoomsWrongFalsely : Prop := catalogRoomsRow.holds Try.pinned (OpenSpec.ofChange catalogRoomsWrong)

/-- 'sledgelaw24.CatalogMeets': WHATEVER THE INPUT: true; the input reads as it did. -/
def catalogMeetsSpec : ChangeSpec := { name := "catalogMeets", fn := fun _ => fun
  | [d1, d2] => { results := [.lit (.bool true)], args := [d1, d2] }
  | _ => none }
def catalogMeetsRow : OpenClaim := { program := "ytachmdfabnigpaa", sum := "b5c861a6250423715023d41427c9ef40d49624ec5857d0511b7fa938af6140f5", func := "sledge/sledgelaw24.CatalogMeets", spec := "catalogMeets", unfollowed := true, recurses := true, apart := false }
def CatalogMeetsSaid : Prop := catalogMeetsRow.holds Try.pinned (OpenSpec.ofChange catalogMeetsSpec)

/-- ITS FALSE NEIGHBOUR: 'it returns false'. Refute it at one input. -/
def catalogMeetsWrong : ChangeSpec := { name := "catalogMeets", fn := fun _ => fun
  | [d1, d2] => { results := [.lit (.bool false)], args := [d1, d2] }
  | _ => none }
def CatalogMeetsWrongFalsely : Prop := catalogMeetsRow.holds Try.pinned (OpenSpec.ofChange catalogMeetsWrong)

/- THE SECOND FORM. 'bulk': how many values and letters a reading holds, each counted each time it is reached (what is shared counts as often as it is met; a slice's spare places count too). A statement '..UptoSaid' is the law's where the arguments, and the package variables that the reading takes, are together of bulk at most 1048576: NARROWER than '..Said'. Prove '..Said' where nothing that the law and all that it calls make is longer than what came in: it says more and counts as full. Else prove '..UptoSaid'. A law counts once. -/
mutual
def uptoBulk {H : Type} : DataW H → Nat
  | .lit (.string bytes) => bytes.length + 1
  | .lit _ => 1
  | .nil => 1
  | .ptr d => uptoBulk d + 1
  | .slice elems spare => uptoBulkAll elems + uptoBulkAll spare + 1
  | .agg parts => uptoBulkAll parts + 1
  | .iface _ d => uptoBulk d + 1
  | .map entries => uptoBulkEntries entries + 1
  | .held _ => 1
def uptoBulkAll {H : Type} : List (DataW H) → Nat
  | [] => 0
  | d :: r => uptoBulk d + uptoBulkAll r
def uptoBulkEntries {H : Type} : List (Lit × DataW H) → Nat
  | [] => 0
  | x :: r => uptoBulkEntry x + uptoBulkEntries r
def uptoBulkEntry {H : Type} : Lit × DataW H → Nat
  | (.string bytes, d) => bytes.length + uptoBulk d + 1
  | (_, d) => uptoBulk d + 1
 end
def uptoSmall : (H : Type) → List (DataW H) → Bool := fun _ ds => decide (uptoBulkAll ds ≤ 1048576)
def OpenSpec.upto (s : _root_.Go.ChangeSpec) : _root_.Go.OpenSpec := { _root_.Go.OpenSpec.ofChange s with cond := some uptoSmall }

/-- 'sledgelaw24.CatalogPuts', WHERE WHAT IT READS IS OF BULK AT MOST 1048576: true; the input reads as it did. -/
def catalogPutsUptoRow : OpenClaim := { program := "ytachmdfabnigpaa", sum := "b5c861a6250423715023d41427c9ef40d49624ec5857d0511b7fa938af6140f5", func := "sledge/sledgelaw24.CatalogPuts", spec := "catalogPuts", unfollowed := true, recurses := true, apart := false, narrowed := true }
def CatalogPutsUptoSaid : Prop := catalogPutsUptoRow.holds Try.pinned (OpenSpec.upto catalogPutsSpec)

/-- 'sledgelaw24.CatalogRooms', WHERE WHAT IT READS IS OF BULK AT MOST 1048576: true; the input reads as it did. -/
def catalogRoomsUptoRow : OpenClaim := { program := "ytachmdfabnigpaa", sum := "b5c861a6250423715023d41427c9ef40d49624ec5857d0511b7fa938af6140f5", func := "sledge/sledgelaw24.CatalogRooms", spec := "catalogRooms", unfollowed := true, recurses := true, apart := false, narrowed := true }
def CatalogRoomsUptoSaid : Prop := catalogRoomsUptoRow.holds Try.pinned (OpenSpec.upto catalogRoomsSpec)

/-- 'sledgelaw24.CatalogMeets', WHERE WHAT IT READS IS OF BULK AT MOST 1048576: true; the input reads as it did. -/
def catalogMeetsUptoRow : OpenClaim := { program := "ytachmdfabnigpaa", sum := "b5c861a6250423715023d41427c9ef40d49624ec5857d0511b7fa938af6140f5", func := "sledge/sledgelaw24.CatalogMeets", spec := "catalogMeets", unfollowed := true, recurses := true, apart := false, narrowed := true }
def CatalogMeetsUptoSaid : Prop := catalogMeetsUptoRow.holds Try.pinned (OpenSpec.upto catalogMeetsSpec)

end Rows
end Go.Proofs.Ytachmdfabnigpaa
