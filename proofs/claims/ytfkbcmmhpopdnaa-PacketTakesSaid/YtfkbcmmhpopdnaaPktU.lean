/-
  The walk of the law PacketPuts.
-/
import Derived.Test.YtfkbcmmhpopdnaaPktL
namespace Go.Proofs.Ytfkbcmmhpopdnaa
open Go.RowKit

def BkP (w : World) (g : Nat) (kind fr seq id i n : Int) (text : ByteArray) (A : Option Addr) (pn pc : Nat) : Prop := Bk w g 24 #[.int .i64 kind, .int .i64 fr, .int .i64 seq, .int .i64 id, .int .i64 i, .int .i64 n, .string text, .slice A pn pc]
theorem BkP.cells {w : World} {g : Nat} {kind fr seq id i n : Int} {text : ByteArray} {A : Option Addr} {pn pc : Nat} (hG : BkP w g kind fr seq id i n text A pn pc) :
    w.cell? ⟨g, 0, none⟩ = some (.int .i64 kind) ∧ w.cell? ⟨g, 1, none⟩ = some (.int .i64 fr) ∧ w.cell? ⟨g, 2, none⟩ = some (.int .i64 seq) ∧ w.cell? ⟨g, 3, none⟩ = some (.int .i64 id) ∧ w.cell? ⟨g, 4, none⟩ = some (.int .i64 i) ∧ w.cell? ⟨g, 5, none⟩ = some (.int .i64 n) ∧ w.cell? ⟨g, 6, none⟩ = some (.string text) ∧ w.cell? ⟨g, 7, none⟩ = some (.slice A pn pc) :=
  ⟨Bk.cell hG 0, Bk.cell hG 1, Bk.cell hG 2, Bk.cell hG 3, Bk.cell hG 4, Bk.cell hG 5, Bk.cell hG 6, Bk.cell hG 7⟩
theorem pcheck_k (kind fr seq id i n : Int) (text : ByteArray) (A : Option Addr) (pn pc : Nat) (P : List ByteArray) (b : Bool) (k : Int) (w : World) (hb : pktOk kind fr seq id i n text P = b) (hk : okE b = k) (hP : P.length = pn) (hr : Rd w A (P.map Value.string)) (ht : text.size ≤ 9223372036854775807) (hn : pn ≤ 9223372036854775807) :
    Calls Try.prog 11 #[.agg #[.int .i64 kind, .int .i64 fr, .int .i64 seq, .int .i64 id, .int .i64 i, .int .i64 n, .string text, .slice A pn pc]] w fun e w' => e = .returned (.int .i64 k) ∧ Below w.heap.size w w' := by
  subst hk; exact pcheck_any kind fr seq id i n text A pn pc P b w hb hP hr ht hn
theorem pput_b (kind fr seq id i n : Int) (text : ByteArray) (A : Option Addr) (pn pc : Nat) (P : List ByteArray) (b : Bool) (S : ByteArray) (k : Int) (w : World) (hb : pktOk kind fr seq id i n text P = b) (hk : okE b = k) (hS : (if b then pktS kind fr seq id i n text P else ⟨#[]⟩) = S) (hP : P.length = pn) (hpc : pn ≤ pc) (hr : Rd w A (P.map Value.string)) (ht : text.size ≤ 1000) (hn : pn ≤ 9223372036854775807) :
    Calls Try.prog 9 #[.agg #[.int .i64 kind, .int .i64 fr, .int .i64 seq, .int .i64 id, .int .i64 i, .int .i64 n, .string text, .slice A pn pc]] w fun e w' => e = .returned (.tuple #[.string S, .int .i64 k]) ∧ Below w.heap.size w w' := by
  subst hk; subst hS
  cases b with
  | true => exact pput_any kind fr seq id i n text A pn pc P w hb hP hpc hr ht hn
  | false => exact pput_bad kind fr seq id i n text A pn pc P w hb hP hr (by omega) hn
theorem pputR_b (kind fr seq id i n : Int) (text : ByteArray) (A : Option Addr) (pn pc : Nat) (P : List ByteArray) (b : Bool) (S : ByteArray) (k : Int) (w : World) (hb : pktOk kind fr seq id i n text P = b) (hk : okE b = k) (hS : (if b then pktS kind fr seq id i n text P else ⟨#[]⟩) = S) (hP : P.length = pn) (hpc : pn ≤ pc) (hr : Rd w A (P.map Value.string)) (ht : text.size ≤ 1000) (hn : pn ≤ 9223372036854775807) :
    Calls Try.prog 10 #[.agg #[.int .i64 kind, .int .i64 fr, .int .i64 seq, .int .i64 id, .int .i64 i, .int .i64 n, .string text, .slice A pn pc]] w fun e w' => e = .returned (.tuple #[.string S, .int .i64 k]) ∧ Below w.heap.size w w' := by
  subst hk; subst hS
  cases b with
  | true => exact pputR_any kind fr seq id i n text A pn pc P w hb hP hpc hr ht hn
  | false => exact pputR_bad kind fr seq id i n text A pn pc P w hb hP hr (by omega) hn

set_option maxRecDepth 20000 in
set_option maxHeartbeats 4000000 in
theorem packetPuts_walk (kind fr seq id i n : Int) (text : ByteArray) (A : Option Addr) (pn pc : Nat) (P : List ByteArray) (w : World) (hP : P.length = pn) (hpc : pn ≤ pc) (hn : pn ≤ 9223372036854775807) (hr : Rd w A (P.map Value.string)) :
    Calls Try.prog 3 #[.agg #[.int .i64 kind, .int .i64 fr, .int .i64 seq, .int .i64 id, .int .i64 i, .int .i64 n, .string text, .slice A pn pc]] w (Yes w) := by
  have HP := Lib.hid hP
  clear hP
  obtain ⟨b, hb⟩ : ∃ b, pktOk kind fr seq id i n text P = b := ⟨_, rfl⟩
  obtain ⟨k, hk⟩ : ∃ k, okE b = k := ⟨_, rfl⟩
  obtain ⟨S, hS⟩ : ∃ S, (if b then pktS kind fr seq id i n text P else ⟨#[]⟩) = S := ⟨_, rfl⟩
  have Hb := Lib.hid hb
  have Hk := Lib.hid hk
  have HS := Lib.hid hS
  clear hb hk hS
  have hB := (Below.refl w.heap.size w).alloc (Nat.le_refl _) (.cells #[.int .i64 kind, .int .i64 fr, .int .i64 seq, .int .i64 id, .int .i64 i, .int .i64 n, .string text, .slice A pn pc] 24)
  have hG : BkP (w.alloc (.cells #[.int .i64 kind, .int .i64 fr, .int .i64 seq, .int .i64 id, .int .i64 i, .int .i64 n, .string text, .slice A pn pc] 24)) w.heap.size kind fr seq id i n text A pn pc := Bk.new _ _ _
  have hr0 := hr.below hB
  clear hr
  go_enter Try.func3, Try.ntmps3
  go_wp2_with fail
  generalize w.alloc (.cells #[.int .i64 kind, .int .i64 fr, .int .i64 seq, .int .i64 id, .int .i64 i, .int .i64 n, .string text, .slice A pn pc] 24) = w1 at *
  refine (light_any kind fr seq id i n text A pn pc P _ HP.out hr0 hn).mono ?_
  rintro e w2 ⟨l, rfl, hl, hb2⟩
  have hB2 := bl hB hb2
  have hG2 : BkP w2 w.heap.size kind fr seq id i n text A pn pc := Bk.below' hG hb2
  have hr2 := hr0.below hb2
  clear hB hG hr0 hb2
  cases l with
  | false =>
    clear hl
    go_wp2_with fail
    (with_reducible refine (awakeK_any _).mono ?_)
    rintro e w3 ⟨rfl, hb3⟩
    go_wp2_with fail
    go_ret
    exact ⟨rfl, bl hB2 hb3⟩
  | true =>
    have ht := hl rfl
    clear hl
    obtain ⟨g0, g1, g2, g3, g4, g5, g6, g7⟩ := hG2.cells
    go_wp2_with fail
    (with_reducible refine (pput_b kind fr seq id i n text A pn pc P b S k _ Hb.out Hk.out HS.out HP.out hpc hr2 ht hn).mono ?_)
    rintro e w3 ⟨rfl, hb3⟩
    have hB3 := bl hB2 hb3
    have hG3 : BkP w3 w.heap.size kind fr seq id i n text A pn pc := Bk.below' hG2 hb3
    have hr3 := hr2.below hb3
    clear hB2 hG2 hr2 hb3 g0 g1 g2 g3 g4 g5 g6 g7
    obtain ⟨g0, g1, g2, g3, g4, g5, g6, g7⟩ := hG3.cells
    go_wp2_with fail
    (with_reducible refine (pputR_b kind fr seq id i n text A pn pc P b S k _ Hb.out Hk.out HS.out HP.out hpc hr3 ht hn).mono ?_)
    rintro e w4 ⟨rfl, hb4⟩
    have hB4 := bl hB3 hb4
    have hG4 : BkP w4 w.heap.size kind fr seq id i n text A pn pc := Bk.below' hG3 hb4
    have hr4 := hr3.below hb4
    clear hB3 hG3 hr3 hb4 g0 g1 g2 g3 g4 g5 g6 g7
    obtain ⟨g0, g1, g2, g3, g4, g5, g6, g7⟩ := hG4.cells
    go_wp2_with fail
    (with_reducible refine (pcheck_k kind fr seq id i n text A pn pc P b k _ Hb.out Hk.out HP.out hr4 (by omega) hn).mono ?_)
    rintro e w5 ⟨rfl, hb5⟩
    have hB5 := bl hB4 hb5
    clear hB4 hG4 hr4 hb5 g0 g1 g2 g3 g4 g5 g6 g7
    go_wp2_with fail
    (with_reducible refine (awakeK_any _).mono ?_)
    rintro e w6 ⟨rfl, hb6⟩
    go_wp2_with fail
    go_ret
    exact ⟨rfl, bl hB5 hb6⟩
end Go.Proofs.Ytfkbcmmhpopdnaa
