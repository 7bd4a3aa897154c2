/-
  Packets: may one be (packet.Check).
-/
import Derived.Test.YtfkbcmmhpopdnaaPktA
namespace Go.Proofs.Ytfkbcmmhpopdnaa
open Go.RowKit

/-- Have all 32 bytes? -/
def szB (P : List ByteArray) : Bool := P.all fun s => decide (s.size = 32)
theorem szB_nil : szB [] = true := rfl
/-- May a packet be? -/
def pktOk (kind fr seq id i n : Int) (text : ByteArray) (P : List ByteArray) : Bool :=
  w32 fr 1 && (if kind = 1 then decide (hdrE text = 0 ∧ seq = 0 ∧ id = 0 ∧ i = 0 ∧ n = 0 ∧ P.length = 0) else w32 id 1 && w32 seq 0 &&
    (if kind = 2 then decide (seq = 0 ∧ n = 0 ∧ 0 ≤ i ∧ i ≤ 255 ∧ text.size = 224 ∧ P.length ≤ 8 ∧ szB P = true)
     else if kind = 3 then decide ((takeB n text.toList).2 = 0 ∧ 0 < n ∧ 0 ≤ i ∧ i ≤ n ∧ P.length = 0)
     else decide (kind = 4 ∧ i = 0 ∧ n = 0 ∧ P.length = 0 ∧ text.size = 32)))
theorem pktOk_fr {kind fr seq id i n : Int} {text : ByteArray} {P : List ByteArray} {b : Bool} (h : pktOk kind fr seq id i n text P = b) (h2 : w32 fr 1 = false) : b = false := by
  rw [← h]; unfold pktOk; rw [h2]; rfl
theorem pktOk_lo {kind fr seq id i n : Int} {text : ByteArray} {P : List ByteArray} {b : Bool} (h : pktOk kind fr seq id i n text P = b) (hk : kind < 1 ∨ 4 < kind) : b = false := by
  rw [← h]; unfold pktOk
  rw [if_neg (by omega), if_neg (by omega), if_neg (by omega), decide_eq_false (fun h => by have := h.1; omega)]
  simp
theorem pktOk_wd {kind fr seq id i n : Int} {text : ByteArray} {P : List ByteArray} {b : Bool} (h : pktOk kind fr seq id i n text P = b) (hk : ¬ kind = 1) (h2 : w32 id 1 = false ∨ w32 seq 0 = false) : b = false := by
  rw [← h]; unfold pktOk
  rw [if_neg hk]
  rcases h2 with h2 | h2 <;> rw [h2] <;> simp
theorem plnB_1 {seq id i n : Int} {pn : Nat} : plnB 1 seq id i n pn = decide (seq = 0 ∧ id = 0 ∧ i = 0 ∧ n = 0 ∧ pn = 0) := rfl
theorem plnB_2 {seq id i n : Int} {pn : Nat} : plnB 2 seq id i n pn = decide (seq = 0 ∧ n = 0) := rfl
theorem plnB_3 {seq id i n : Int} {pn : Nat} : plnB 3 seq id i n pn = decide (pn = 0) := rfl
theorem plnB_4 {seq id i n : Int} {pn : Nat} : plnB 4 seq id i n pn = decide (i = 0 ∧ n = 0 ∧ pn = 0) := rfl
theorem ok_1 {fr seq id i n : Int} {text : ByteArray} {P : List ByteArray} : pktOk 1 fr seq id i n text P = (w32 fr 1 && decide (hdrE text = 0 ∧ seq = 0 ∧ id = 0 ∧ i = 0 ∧ n = 0 ∧ P.length = 0)) := rfl
theorem ok_2 {fr seq id i n : Int} {text : ByteArray} {P : List ByteArray} : pktOk 2 fr seq id i n text P = (w32 fr 1 && (w32 id 1 && w32 seq 0 && decide (seq = 0 ∧ n = 0 ∧ 0 ≤ i ∧ i ≤ 255 ∧ text.size = 224 ∧ P.length ≤ 8 ∧ szB P = true))) := rfl
theorem ok_3 {fr seq id i n : Int} {text : ByteArray} {P : List ByteArray} : pktOk 3 fr seq id i n text P = (w32 fr 1 && (w32 id 1 && w32 seq 0 && decide ((takeB n text.toList).2 = 0 ∧ 0 < n ∧ 0 ≤ i ∧ i ≤ n ∧ P.length = 0))) := rfl
theorem ok_4 {fr seq id i n : Int} {text : ByteArray} {P : List ByteArray} : pktOk 4 fr seq id i n text P = (w32 fr 1 && (w32 id 1 && w32 seq 0 && decide (i = 0 ∧ n = 0 ∧ P.length = 0 ∧ text.size = 32))) := by
  unfold pktOk; simp

/-- What of bytes' reading as a set is told: the error. -/
def SErr (w : World) (k : Int) (e : Ending) (w' : World) : Prop :=
  ∃ a b c d f : Int, e = .returned (.tuple #[.agg #[.int .i64 a, .int .u64 b, .int .u64 c, .int .u64 d, .int .u64 f], .int .i64 k]) ∧ Below w.heap.size w w'
theorem take_e (n : Int) (s : ByteArray) (k : Int) (hk : (takeB n s.toList).2 = k) (hs : s.size ≤ 9223372036854775807) (w : World) : Calls Try.prog 22 #[.int .i64 n, .string s] w (SErr w k) := by
  subst hk
  exact (take_any n s w hs).mono fun e w' ⟨he, hb⟩ => ⟨_, _, _, _, _, he, hb⟩
def PC (w : World) (b : Bool) (e : Ending) (w' : World) : Prop := e = .returned (.int .i64 (okE b)) ∧ Below w.heap.size w w'
theorem PC.no {w w' : World} {b : Bool} (h : b = false) (hB : Below w.heap.size w w') : PC w b (.returned (.int .i64 1)) w' := by subst h; exact ⟨rfl, hB⟩
theorem PC.yes {w w' : World} {b : Bool} (h : b = true) (hB : Below w.heap.size w w') : PC w b (.returned (.int .i64 0)) w' := by subst h; exact ⟨rfl, hB⟩
theorem take_all {P : List ByteArray} {k : Nat} {x : ByteArray} (hx : P[k]? = some x) : szB (P.take (k + 1)) = true ↔ szB (P.take k) = true ∧ x.size = 32 := by
  rw [List.take_add_one, hx]
  unfold szB
  simp
theorem sz_step {i : Int} {text : ByteArray} {pn : Nat} {P : List ByteArray} {k : Nat} {x : ByteArray} (hx : P[k]? = some x) (h : false = decide (0 ≤ i ∧ i ≤ 255 ∧ text.size = 224 ∧ pn ≤ 8 ∧ szB (P.take k) = true)) : false = decide (0 ≤ i ∧ i ≤ 255 ∧ text.size = 224 ∧ pn ≤ 8 ∧ szB (P.take (k + 1)) = true) := by
  have h' := of_decide_eq_false h.symm
  refine (decide_eq_false (fun g => h' ⟨g.1, g.2.1, g.2.2.1, g.2.2.2.1, ((take_all hx).1 g.2.2.2.2).1⟩)).symm
theorem sz_yes {i : Int} {text : ByteArray} {pn : Nat} {P : List ByteArray} {k : Nat} {x : ByteArray} (hx : P[k]? = some x) (h : true = decide (0 ≤ i ∧ i ≤ 255 ∧ text.size = 224 ∧ pn ≤ 8 ∧ szB (P.take k) = true)) : (((x.size : Nat) : Int) == 32) = decide (0 ≤ i ∧ i ≤ 255 ∧ text.size = 224 ∧ pn ≤ 8 ∧ szB (P.take (k + 1)) = true) := by
  have h' := of_decide_eq_true h.symm
  rw [Bool.eq_iff_iff, decide_eq_true_eq, beq_iff_eq, take_all hx]
  exact ⟨fun g => ⟨h'.1, h'.2.1, h'.2.2.1, h'.2.2.2.1, h'.2.2.2.2, by omega⟩, fun g => by have := g.2.2.2.2.2; omega⟩

set_option maxRecDepth 20000 in
set_option maxHeartbeats 4000000 in
theorem pcheck_0 (kind : Int) (fr seq id i n : Int) (text : ByteArray) (A : Option Addr) (pn pc : Nat) (P : List ByteArray) (b : Bool) (w : World) (hb : pktOk kind fr seq id i n text P = b) (hP : P.length = pn) (hr : Rd w A (P.map Value.string)) (ht : text.size ≤ 9223372036854775807) (hn : pn ≤ 9223372036854775807) (hk : kind < 1 ∨ 4 < kind) :
    Calls Try.prog 11 #[.agg #[.int .i64 kind, .int .i64 fr, .int .i64 seq, .int .i64 id, .int .i64 i, .int .i64 n, .string text, .slice A pn pc]] w (PC w b) := by
  have Hb := Lib.hid hb
  have HP := Lib.hid hP
  clear hb hP
  have Hno := Lib.hid (pktOk_lo Hb.out hk)
  have hB := (Below.refl w.heap.size w).alloc (Nat.le_refl _) (.cells #[.int .i64 kind, .int .i64 fr, .int .i64 seq, .int .i64 id, .int .i64 i, .int .i64 n, .string text, .slice A pn pc] 24)
  by_cases h1 : 1 ≤ kind
  · have h2 : ¬ kind ≤ 4 := by omega
    clear hk
    go_enter Try.func11, Try.ntmps11
    go_wp2
    go_ret
    exact PC.no Hno.out hB
  · clear hk
    go_enter Try.func11, Try.ntmps11
    go_wp2
    go_ret
    exact PC.no Hno.out hB

set_option maxRecDepth 20000 in
set_option maxHeartbeats 4000000 in
theorem pcheck_1 (fr seq id i n : Int) (text : ByteArray) (A : Option Addr) (pn pc : Nat) (P : List ByteArray) (b : Bool) (w : World) (hb : pktOk 1 fr seq id i n text P = b) (hP : P.length = pn) (hr : Rd w A (P.map Value.string)) (ht : text.size ≤ 9223372036854775807) (hn : pn ≤ 9223372036854775807) :
    Calls Try.prog 11 #[.agg #[.int .i64 1, .int .i64 fr, .int .i64 seq, .int .i64 id, .int .i64 i, .int .i64 n, .string text, .slice A pn pc]] w (PC w b) := by
  have Hb := Lib.hid hb
  have HP := Lib.hid hP
  clear hb hP
  obtain ⟨b1, hb1⟩ : ∃ b, plnB 1 seq id i n pn = b := ⟨_, rfl⟩
  obtain ⟨b2, hb2⟩ : ∃ b, w32 fr 1 = b := ⟨_, rfl⟩
  obtain ⟨b3, hb3⟩ : ∃ b, w32 id 1 = b := ⟨_, rfl⟩
  obtain ⟨b4, hb4⟩ : ∃ b, w32 seq 0 = b := ⟨_, rfl⟩
  have H1 := Lib.hid hb1
  have H2 := Lib.hid hb2
  have H3 := Lib.hid hb3
  have H4 := Lib.hid hb4
  clear hb1 hb2 hb3 hb4
  have hB0 := (Below.refl w.heap.size w).alloc (Nat.le_refl _) (.cells #[.int .i64 1, .int .i64 fr, .int .i64 seq, .int .i64 id, .int .i64 i, .int .i64 n, .string text, .slice A pn pc] 24)
  have hG0 : Bk (w.alloc (.cells #[.int .i64 1, .int .i64 fr, .int .i64 seq, .int .i64 id, .int .i64 i, .int .i64 n, .string text, .slice A pn pc] 24)) w.heap.size 24 #[.int .i64 1, .int .i64 fr, .int .i64 seq, .int .i64 id, .int .i64 i, .int .i64 n, .string text, .slice A pn pc] := Bk.new _ _ _
  go_enter Try.func11, Try.ntmps11
  go_wp2_with fail
  refine (plain_k 1 fr seq id i n text A pn pc b1 H1.out _).mono ?_
  rintro e w1 ⟨rfl, hb1⟩
  have hG := hG0.below' hb1
  have hB := bl hB0 hb1
  have hr1 := hr.below (hB0.trans (hb1.mono (by simp)))
  clear hG0 hB0 hb1 hr
  have g0 := hG.cell 0
  have g1 := hG.cell 1
  have g2 := hG.cell 2
  have g3 := hG.cell 3
  have g4 := hG.cell 4
  have g5 := hG.cell 5
  have g6 := hG.cell 6
  have g7 := hG.cell 7
  simp only [List.getElem?_toArray, List.getElem?_cons_succ, List.getElem?_cons_zero] at g0 g1 g2 g3 g4 g5 g6 g7
  cases b1 with
  | false =>
    go_wp2
    go_ret
    refine PC.no ?_ hB
    have hp := H1.out
    have hb := Hb.out
    rw [plnB_1] at hp
    rw [ok_1] at hb
    have hp' := of_decide_eq_false hp
    rw [← hb, Bool.and_eq_false_iff]
    right
    exact decide_eq_false (fun h => hp' ⟨h.2.1, h.2.2.1, h.2.2.2.1, h.2.2.2.2.1, HP.out ▸ h.2.2.2.2.2⟩)
  | true =>
    cases b2 with
    | false =>
      have Hno := Lib.hid (pktOk_fr Hb.out H2.out)
      go_wp2_with fail
      (with_reducible refine (numW_any fr 1 false H2.out _).mono ?_)
      rintro e w2 ⟨rfl, rfl⟩
      go_wp2_with fail
      go_ret
      exact PC.no Hno.out hB
    | true =>
      obtain ⟨he, hhe⟩ : ∃ e, hdrE text = e := ⟨_, rfl⟩
      have Hh := Lib.hid hhe
      clear hhe
      go_wp2_with fail
      (with_reducible refine (numW_any fr 1 true H2.out _).mono ?_)
      rintro e w2 ⟨rfl, rfl⟩
      go_wp2_with fail
      (with_reducible refine (htake_e text he Hh.out _).mono ?_)
      rintro e w2 ⟨x0, x1, x2, x3, x4, x5, x6, rfl, hb2⟩
      have hB2 := bl hB hb2
      have hp := of_decide_eq_true (plnB_1.symm.trans H1.out)
      have HQ := Lib.hid (show decide (he = 0) = b by
        have hb := Hb.out
        rw [ok_1, H2.out, Bool.true_and, HP.out, Hh.out] at hb
        rw [← hb, decide_eq_decide]
        exact ⟨fun h => ⟨h, hp⟩, fun h => h.1⟩)
      clear hG hB hb2 g0 g1 g2 g3 g4 g5 g6 g7 hp
      go_wp2
      all_goals go_ret
      · refine PC.no ?_ (hB2.alloc hB2.size _)
        have h : (!he == 0) = true := by assumption
        rw [← HQ.out]; exact decide_eq_false (by simpa using h)
      · refine PC.yes ?_ (hB2.alloc hB2.size _)
        have h : (!he == 0) = false := by assumption
        rw [← HQ.out]; exact decide_eq_true (by simpa using h)
end Go.Proofs.Ytfkbcmmhpopdnaa
