/-
  Packets: may one be, whole.
-/
import Derived.Test.YtfkbcmmhpopdnaaPktBD
import Derived.Test.YtfkbcmmhpopdnaaPktBA
namespace Go.Proofs.Ytfkbcmmhpopdnaa
open Go.RowKit

theorem pcheck_any (kind fr seq id i n : Int) (text : ByteArray) (A : Option Addr) (pn pc : Nat) (P : List ByteArray) (b : Bool) (w : World) (hb : pktOk kind fr seq id i n text P = b) (hP : P.length = pn) (hr : Rd w A (P.map Value.string)) (ht : text.size ≤ 9223372036854775807) (hn : pn ≤ 9223372036854775807) :
    Calls Try.prog 11 #[.agg #[.int .i64 kind, .int .i64 fr, .int .i64 seq, .int .i64 id, .int .i64 i, .int .i64 n, .string text, .slice A pn pc]] w (PC w b) := by
  have h : kind = 1 ∨ kind = 2 ∨ kind = 3 ∨ kind = 4 ∨ (kind < 1 ∨ 4 < kind) := by omega
  rcases h with rfl | rfl | rfl | rfl | h
  · exact pcheck_1 fr seq id i n text A pn pc P b w hb hP hr ht hn
  · exact pcheck_2 fr seq id i n text A pn pc P b w hb hP hr ht hn
  · exact pcheck_3 fr seq id i n text A pn pc P b w hb hP hr ht hn
  · exact pcheck_4 fr seq id i n text A pn pc P b w hb hP hr ht hn
  · exact pcheck_0 kind fr seq id i n text A pn pc P b w hb hP hr ht hn h
end Go.Proofs.Ytfkbcmmhpopdnaa
