/-
  Packets: the reference's May.
-/
import Derived.Test.YtfkbcmmhpopdnaaPktB
namespace Go.Proofs.Ytfkbcmmhpopdnaa
open Go.RowKit

theorem word_any (n least : Int) (b : Bool) (hb : w32 n least = b) (w : World) :
    Calls Try.prog 32 #[.int .i64 n, .int .i64 least] w fun e w' => e = .returned (.bool b) ∧ w = w' := by
  by_cases h1 : least ≤ n
  · by_cases h2 : n ≤ 4294967295
    · have H := Lib.hid (show b = true from hb ▸ decide_eq_true ⟨h1, h2⟩)
      clear hb
      go_enter Try.func32, Try.ntmps32
      go_wp2
      go_ret
      exact ⟨by rw [H.out]; rfl, rfl⟩
    · have H := Lib.hid (show b = false from hb ▸ decide_eq_false (fun h => h2 h.2))
      clear hb
      go_enter Try.func32, Try.ntmps32
      go_wp2
      go_ret
      exact ⟨by rw [H.out]; rfl, rfl⟩
  · have H := Lib.hid (show b = false from hb ▸ decide_eq_false (fun h => h1 h.1))
    clear hb
    go_enter Try.func32, Try.ntmps32
    go_wp2
    go_ret
    exact ⟨by rw [H.out]; rfl, rfl⟩

theorem szB_bad {P : List ByteArray} {k : Nat} {x : ByteArray} (hx : P[k]? = some x) (h : ¬ x.size = 32) : szB P = false := by
  unfold szB
  rw [Bool.eq_false_iff]
  intro g
  exact h (of_decide_eq_true (List.all_eq_true.1 g x (List.mem_of_getElem? hx)))

set_option maxRecDepth 20000 in
theorem sums_any (A : Option Addr) (pn pc : Nat) (P : List ByteArray) (b : Bool) (w : World) (hb : (szB P && decide (pn ≤ 8)) = b) (hP : P.length = pn) (hr : Rd w A (P.map Value.string)) (hn : pn ≤ 9223372036854775807) :
    Calls Try.prog 34 #[.slice A pn pc] w fun e w' => e = .returned (.bool b) ∧ w = w' := by
  have Hb := Lib.hid hb
  have HP := Lib.hid hP
  clear hb hP
  go_enter Try.func34, Try.ntmps34
  go_wp2_with fail
  go_loop [3] (fun x => ∃ k : Nat, k ≤ pn ∧ x = .int .i64 k ∧ Hid (szB (P.take k) = true)) (fun x => pn - (intOf x).toNat)
  case atStart => exact ⟨0, by omega, rfl, Lib.hid rfl⟩
  case round =>
    obtain ⟨k, hk, rfl, hf⟩ := hrel
    by_cases hlt : k < pn
    · obtain ⟨b0, o0, rfl, hcell⟩ := hr.at_ (k := k) (by rw [List.length_map, HP.out]; exact hlt)
      obtain ⟨x, hx⟩ : ∃ x, P[k]? = some x := ⟨_, List.getElem?_eq_getElem (by rw [HP.out]; exact hlt)⟩
      have hcell' : w.cell? ⟨b0, o0 + k, none⟩ = some (.string x) := by
        rw [hcell, List.getElem_map]
        congr 2
        exact Option.some.inj ((List.getElem?_eq_getElem _).symm.trans hx)
      have Hx := Lib.hid hx
      clear hcell hx
      by_cases hz : x.size = 32
      · have hz' : ((x.size : Nat) : Int) = 32 := by omega
        have H := Lib.hid ((take_all Hx.out).2 ⟨hf.out, hz⟩)
        clear hz
        go_wp2_with fail
        go_round
        case rel => exact ⟨k + 1, by omega, by go_num, H⟩
        case measure => simp [intOf]; omega
      · have hz' : ¬ ((x.size : Nat) : Int) = 32 := by omega
        have H := Lib.hid (show b = false by rw [← Hb.out, szB_bad Hx.out hz]; rfl)
        clear hz
        go_wp2_with fail
        go_ret
        exact ⟨by rw [H.out]; rfl, rfl⟩
    · obtain rfl : k = pn := by omega
      have H := Lib.hid (show decide (((k : Nat) : Int) ≤ 8) = b by
        have h := hf.out
        rw [List.take_of_length_le (by rw [HP.out]; exact Nat.le_refl _)] at h
        rw [← Hb.out, h, Bool.true_and, decide_eq_decide]; omega)
      clear hf
      go_wp2_with fail
      go_ret
      exact ⟨by rw [← H.out]; rfl, rfl⟩

/-- What of bytes' reading as a set, by the reference, is told: the error. -/
def RSErr (w : World) (k : Int) (e : Ending) (w' : World) : Prop :=
  ∃ A n c, e = .returned (.tuple #[.slice A n c, .int .i64 k]) ∧ Below w.heap.size w w'
theorem takeRef_e (n : Int) (s : ByteArray) (k : Int) (hk : (takeB n s.toList).2 = k) (hs : s.size ≤ 9223372036854775807) (w : World) : Calls Try.prog 35 #[.int .i64 n, .string s] w (RSErr w k) := by
  subst hk
  exact (takeRef_any n s w hs).mono fun e w' ⟨A, c, he, _, _, _, hb⟩ => ⟨A, _, c, he, hb⟩
def PY (w : World) (b : Bool) (e : Ending) (w' : World) : Prop := e = .returned (.bool b) ∧ Below w.heap.size w w'
theorem PY.mk {w w' : World} {a b : Bool} (h : a = b) (hB : Below w.heap.size w w') : PY w b (.returned (.bool a)) w' := by subst h; exact ⟨rfl, hB⟩

set_option maxRecDepth 20000 in
set_option maxHeartbeats 4000000 in
theorem pmay_0 (kind : Int) (fr seq id i n : Int) (text : ByteArray) (A : Option Addr) (pn pc : Nat) (P : List ByteArray) (b : Bool) (w : World) (hb : pktOk kind fr seq id i n text P = b) (hP : P.length = pn) (hr : Rd w A (P.map Value.string)) (ht : text.size ≤ 9223372036854775807) (hn : pn ≤ 9223372036854775807) (hk1 : ¬ kind = 1) (hk2 : ¬ kind = 2) (hk3 : ¬ kind = 3) :
    Calls Try.prog 17 #[.agg #[.int .i64 kind, .int .i64 fr, .int .i64 seq, .int .i64 id, .int .i64 i, .int .i64 n, .string text, .slice A pn pc]] w (PY w b) := by
  have Hb := Lib.hid hb
  have HP := Lib.hid hP
  clear hb hP
  obtain ⟨b2, hb2⟩ : ∃ b, w32 fr 1 = b := ⟨_, rfl⟩
  obtain ⟨b3, hb3⟩ : ∃ b, w32 id 1 = b := ⟨_, rfl⟩
  obtain ⟨b4, hb4⟩ : ∃ b, w32 seq 0 = b := ⟨_, rfl⟩
  have H2 := Lib.hid hb2
  have H3 := Lib.hid hb3
  have H4 := Lib.hid hb4
  clear hb2 hb3 hb4
  have hB := (Below.refl w.heap.size w).alloc (Nat.le_refl _) (.cells #[.int .i64 kind, .int .i64 fr, .int .i64 seq, .int .i64 id, .int .i64 i, .int .i64 n, .string text, .slice A pn pc] 24)
  have hG : Bk (w.alloc (.cells #[.int .i64 kind, .int .i64 fr, .int .i64 seq, .int .i64 id, .int .i64 i, .int .i64 n, .string text, .slice A pn pc] 24)) w.heap.size 24 #[.int .i64 kind, .int .i64 fr, .int .i64 seq, .int .i64 id, .int .i64 i, .int .i64 n, .string text, .slice A pn pc] := Bk.new _ _ _
  go_enter Try.func17, Try.ntmps17
  cases b2 with
  | false =>
    have Hno := Lib.hid (pktOk_fr Hb.out H2.out)
    go_wp2_with fail
    (with_reducible refine (word_any fr 1 false H2.out _).mono ?_)
    rintro e w2 ⟨rfl, rfl⟩
    go_wp2
    go_ret
    exact PY.mk Hno.out.symm hB
  | true =>
    cases b3 with
    | false =>
      have Hno := Lib.hid (pktOk_wd Hb.out hk1 (.inl H3.out))
      go_wp2_with fail
      (with_reducible refine (word_any fr 1 true H2.out _).mono ?_)
      rintro e w2 ⟨rfl, rfl⟩
      go_wp2_with fail
      (with_reducible refine (word_any id 1 false H3.out _).mono ?_)
      rintro e w2 ⟨rfl, rfl⟩
      go_wp2
      go_ret
      exact PY.mk Hno.out.symm hB
    | true =>
      cases b4 with
      | false =>
        have Hno := Lib.hid (pktOk_wd Hb.out hk1 (.inr H4.out))
        go_wp2_with fail
        (with_reducible refine (word_any fr 1 true H2.out _).mono ?_)
        rintro e w2 ⟨rfl, rfl⟩
        go_wp2_with fail
        (with_reducible refine (word_any id 1 true H3.out _).mono ?_)
        rintro e w2 ⟨rfl, rfl⟩
        go_wp2_with fail
        (with_reducible refine (word_any seq 0 false H4.out _).mono ?_)
        rintro e w2 ⟨rfl, rfl⟩
        go_wp2
        go_ret
        exact PY.mk Hno.out.symm hB
      | true =>
        go_wp2_with fail
        (with_reducible refine (word_any fr 1 true H2.out _).mono ?_)
        rintro e w2 ⟨rfl, rfl⟩
        go_wp2_with fail
        (with_reducible refine (word_any id 1 true H3.out _).mono ?_)
        rintro e w2 ⟨rfl, rfl⟩
        go_wp2_with fail
        (with_reducible refine (word_any seq 0 true H4.out _).mono ?_)
        rintro e w2 ⟨rfl, rfl⟩
        have HQ := Lib.hid (show decide (kind = 4 ∧ i = 0 ∧ n = 0 ∧ pn = 0 ∧ text.size = 32) = b by
          rw [← HP.out, ← Hb.out]
          unfold pktOk
          rw [if_neg hk1, if_neg hk2, if_neg hk3, H2.out, H3.out, H4.out, Bool.true_and, Bool.true_and, Bool.true_and])
        clear H2 H3 H4 Hb
        go_wp2
        all_goals go_ret
        all_goals
          refine PY.mk ?_ ((Below.refl _ _).alloc (Nat.le_refl _) _)
          rw [← HQ.out]
          clear HQ hB hG
          rw [Bool.eq_iff_iff]
          simp_all <;> omega

set_option maxRecDepth 20000 in
set_option maxHeartbeats 4000000 in
theorem pmay_1 (fr seq id i n : Int) (text : ByteArray) (A : Option Addr) (pn pc : Nat) (P : List ByteArray) (b : Bool) (w : World) (hb : pktOk 1 fr seq id i n text P = b) (hP : P.length = pn) (hr : Rd w A (P.map Value.string)) (ht : text.size ≤ 9223372036854775807) (hn : pn ≤ 9223372036854775807) :
    Calls Try.prog 17 #[.agg #[.int .i64 1, .int .i64 fr, .int .i64 seq, .int .i64 id, .int .i64 i, .int .i64 n, .string text, .slice A pn pc]] w (PY w b) := by
  have Hb := Lib.hid hb
  have HP := Lib.hid hP
  clear hb hP
  obtain ⟨b2, hb2⟩ : ∃ b, w32 fr 1 = b := ⟨_, rfl⟩
  obtain ⟨b3, hb3⟩ : ∃ b, w32 id 1 = b := ⟨_, rfl⟩
  obtain ⟨b4, hb4⟩ : ∃ b, w32 seq 0 = b := ⟨_, rfl⟩
  have H2 := Lib.hid hb2
  have H3 := Lib.hid hb3
  have H4 := Lib.hid hb4
  clear hb2 hb3 hb4
  have hB := (Below.refl w.heap.size w).alloc (Nat.le_refl _) (.cells #[.int .i64 1, .int .i64 fr, .int .i64 seq, .int .i64 id, .int .i64 i, .int .i64 n, .string text, .slice A pn pc] 24)
  have hG : Bk (w.alloc (.cells #[.int .i64 1, .int .i64 fr, .int .i64 seq, .int .i64 id, .int .i64 i, .int .i64 n, .string text, .slice A pn pc] 24)) w.heap.size 24 #[.int .i64 1, .int .i64 fr, .int .i64 seq, .int .i64 id, .int .i64 i, .int .i64 n, .string text, .slice A pn pc] := Bk.new _ _ _
  go_enter Try.func17, Try.ntmps17
  cases b2 with
  | false =>
    have Hno := Lib.hid (pktOk_fr Hb.out H2.out)
    go_wp2_with fail
    (with_reducible refine (word_any fr 1 false H2.out _).mono ?_)
    rintro e w2 ⟨rfl, rfl⟩
    go_wp2
    go_ret
    exact PY.mk Hno.out.symm hB
  | true =>
    obtain ⟨he, hhe⟩ : ∃ e, hdrE text = e := ⟨_, rfl⟩
    have Hh := Lib.hid hhe
    have HQ := Lib.hid (show decide (he = 0 ∧ seq = 0 ∧ id = 0 ∧ i = 0 ∧ n = 0 ∧ pn = 0) = b by
      rw [← hhe, ← HP.out, ← Hb.out, ok_1, H2.out, Bool.true_and])
    clear hhe
    go_wp2_with fail
    (with_reducible refine (word_any fr 1 true H2.out _).mono ?_)
    rintro e w2 ⟨rfl, rfl⟩
    go_wp2_with fail
    (with_reducible refine (htakeR_e text he Hh.out _).mono ?_)
    rintro e w2 ⟨x0, x1, x2, x3, x4, x5, x6, rfl, hb2⟩
    have hB2 := bl hB hb2
    have hG2 := (hG.below' hb2).alloc (.cells #[.int .i64 x0, .string x1, .int .i64 x2, .int .i64 x3, .int .i64 x4, .string x5, .string x6] 45)
    have hB3 := Lib.hid (hB2.alloc hB2.size (.cells #[.int .i64 x0, .string x1, .int .i64 x2, .int .i64 x3, .int .i64 x4, .string x5, .string x6] 45))
    have hz2 : ((w.alloc (.cells #[.int .i64 1, .int .i64 fr, .int .i64 seq, .int .i64 id, .int .i64 i, .int .i64 n, .string text, .slice A pn pc] 24)).heap.size) ≤ w2.heap.size := hb2.size
    have hz3 : w.heap.size < w2.heap.size := by simp at hz2; omega
    clear hz2
    have g2 := hG2.cell 2
    have g3 := hG2.cell 3
    have g4 := hG2.cell 4
    have g5 := hG2.cell 5
    have g7 := hG2.cell 7
    simp only [List.getElem?_toArray, List.getElem?_cons_succ, List.getElem?_cons_zero] at g2 g3 g4 g5 g7
    clear hG hG2 hb2 hB hB2
    go_wp2
    all_goals go_ret
    all_goals
      refine PY.mk ?_ hB3.out
      rw [← HQ.out]
      clear HQ Hh g2 g3 g4 g5 g7
      rw [Bool.eq_iff_iff]
      simp_all <;> omega

set_option maxRecDepth 20000 in
set_option maxHeartbeats 4000000 in
theorem pmay_2 (fr seq id i n : Int) (text : ByteArray) (A : Option Addr) (pn pc : Nat) (P : List ByteArray) (b : Bool) (w : World) (hb : pktOk 2 fr seq id i n text P = b) (hP : P.length = pn) (hr : Rd w A (P.map Value.string)) (ht : text.size ≤ 9223372036854775807) (hn : pn ≤ 9223372036854775807) :
    Calls Try.prog 17 #[.agg #[.int .i64 2, .int .i64 fr, .int .i64 seq, .int .i64 id, .int .i64 i, .int .i64 n, .string text, .slice A pn pc]] w (PY w b) := by
  have Hb := Lib.hid hb
  have HP := Lib.hid hP
  clear hb hP
  obtain ⟨b2, hb2⟩ : ∃ b, w32 fr 1 = b := ⟨_, rfl⟩
  obtain ⟨b3, hb3⟩ : ∃ b, w32 id 1 = b := ⟨_, rfl⟩
  obtain ⟨b4, hb4⟩ : ∃ b, w32 seq 0 = b := ⟨_, rfl⟩
  have H2 := Lib.hid hb2
  have H3 := Lib.hid hb3
  have H4 := Lib.hid hb4
  clear hb2 hb3 hb4
  have hB := (Below.refl w.heap.size w).alloc (Nat.le_refl _) (.cells #[.int .i64 2, .int .i64 fr, .int .i64 seq, .int .i64 id, .int .i64 i, .int .i64 n, .string text, .slice A pn pc] 24)
  have hG : Bk (w.alloc (.cells #[.int .i64 2, .int .i64 fr, .int .i64 seq, .int .i64 id, .int .i64 i, .int .i64 n, .string text, .slice A pn pc] 24)) w.heap.size 24 #[.int .i64 2, .int .i64 fr, .int .i64 seq, .int .i64 id, .int .i64 i, .int .i64 n, .string text, .slice A pn pc] := Bk.new _ _ _
  go_enter Try.func17, Try.ntmps17
  cases b2 with
  | false =>
    have Hno := Lib.hid (pktOk_fr Hb.out H2.out)
    go_wp2_with fail
    (with_reducible refine (word_any fr 1 false H2.out _).mono ?_)
    rintro e w2 ⟨rfl, rfl⟩
    go_wp2
    go_ret
    exact PY.mk Hno.out.symm hB
  | true =>
    cases b3 with
    | false =>
      have Hno := Lib.hid (pktOk_wd Hb.out (by decide) (.inl H3.out))
      go_wp2_with fail
      (with_reducible refine (word_any fr 1 true H2.out _).mono ?_)
      rintro e w2 ⟨rfl, rfl⟩
      go_wp2_with fail
      (with_reducible refine (word_any id 1 false H3.out _).mono ?_)
      rintro e w2 ⟨rfl, rfl⟩
      go_wp2
      go_ret
      exact PY.mk Hno.out.symm hB
    | true =>
      cases b4 with
      | false =>
        have Hno := Lib.hid (pktOk_wd Hb.out (by decide) (.inr H4.out))
        go_wp2_with fail
        (with_reducible refine (word_any fr 1 true H2.out _).mono ?_)
        rintro e w2 ⟨rfl, rfl⟩
        go_wp2_with fail
        (with_reducible refine (word_any id 1 true H3.out _).mono ?_)
        rintro e w2 ⟨rfl, rfl⟩
        go_wp2_with fail
        (with_reducible refine (word_any seq 0 false H4.out _).mono ?_)
        rintro e w2 ⟨rfl, rfl⟩
        go_wp2
        go_ret
        exact PY.mk Hno.out.symm hB
      | true =>
        go_wp2_with fail
        (with_reducible refine (word_any fr 1 true H2.out _).mono ?_)
        rintro e w2 ⟨rfl, rfl⟩
        go_wp2_with fail
        (with_reducible refine (word_any id 1 true H3.out _).mono ?_)
        rintro e w2 ⟨rfl, rfl⟩
        go_wp2_with fail
        (with_reducible refine (word_any seq 0 true H4.out _).mono ?_)
        rintro e w2 ⟨rfl, rfl⟩
        obtain ⟨q, hq⟩ : ∃ q, (szB P && decide (pn ≤ 8)) = q := ⟨_, rfl⟩
        have Hq := Lib.hid hq
        have hr1 := hr.below hB
        have HQ := Lib.hid (show decide (seq = 0 ∧ n = 0 ∧ 0 ≤ i ∧ i ≤ 255 ∧ text.size = 224 ∧ q = true) = b by
          rw [← hq, ← HP.out, ← Hb.out, ok_2, H2.out, H3.out, H4.out, Bool.true_and, Bool.true_and, Bool.true_and, decide_eq_decide, Bool.and_eq_true, decide_eq_true_eq]
          exact ⟨fun ⟨a, b, c, d, e, f, g⟩ => ⟨a, b, c, d, e, g, f⟩, fun ⟨a, b, c, d, e, f, g⟩ => ⟨a, b, c, d, e, g, f⟩⟩)
        clear hq H2 H3 H4 Hb hr
        have g0 := hG.cell 0
        have g2 := hG.cell 2
        have g4 := hG.cell 4
        have g5 := hG.cell 5
        have g6 := hG.cell 6
        have g7 := hG.cell 7
        simp only [List.getElem?_toArray, List.getElem?_cons_succ, List.getElem?_cons_zero] at g0 g2 g4 g5 g6 g7
        clear hG
        generalize w.alloc (.cells #[.int .i64 2, .int .i64 fr, .int .i64 seq, .int .i64 id, .int .i64 i, .int .i64 n, .string text, .slice A pn pc] 24) = w1 at *
        go_wp2_with ((with_reducible refine (sums_any A pn pc P q _ Hq.out HP.out hr1 hn).mono ?_); rintro e w2 ⟨rfl, rfl⟩)
        all_goals go_ret
        all_goals
          refine PY.mk ?_ hB
          rw [← HQ.out]
          clear HQ Hq hr1 HP g0 g2 g4 g5 g6 g7
          rw [Bool.eq_iff_iff]
          simp_all <;> omega

set_option maxRecDepth 20000 in
set_option maxHeartbeats 4000000 in
theorem pmay_3 (fr seq id i n : Int) (text : ByteArray) (A : Option Addr) (pn pc : Nat) (P : List ByteArray) (b : Bool) (w : World) (hb : pktOk 3 fr seq id i n text P = b) (hP : P.length = pn) (hr : Rd w A (P.map Value.string)) (ht : text.size ≤ 9223372036854775807) (hn : pn ≤ 9223372036854775807) :
    Calls Try.prog 17 #[.agg #[.int .i64 3, .int .i64 fr, .int .i64 seq, .int .i64 id, .int .i64 i, .int .i64 n, .string text, .slice A pn pc]] w (PY w b) := by
  have Hb := Lib.hid hb
  have HP := Lib.hid hP
  clear hb hP
  obtain ⟨b2, hb2⟩ : ∃ b, w32 fr 1 = b := ⟨_, rfl⟩
  obtain ⟨b3, hb3⟩ : ∃ b, w32 id 1 = b := ⟨_, rfl⟩
  obtain ⟨b4, hb4⟩ : ∃ b, w32 seq 0 = b := ⟨_, rfl⟩
  have H2 := Lib.hid hb2
  have H3 := Lib.hid hb3
  have H4 := Lib.hid hb4
  clear hb2 hb3 hb4
  have hB := (Below.refl w.heap.size w).alloc (Nat.le_refl _) (.cells #[.int .i64 3, .int .i64 fr, .int .i64 seq, .int .i64 id, .int .i64 i, .int .i64 n, .string text, .slice A pn pc] 24)
  have hG : Bk (w.alloc (.cells #[.int .i64 3, .int .i64 fr, .int .i64 seq, .int .i64 id, .int .i64 i, .int .i64 n, .string text, .slice A pn pc] 24)) w.heap.size 24 #[.int .i64 3, .int .i64 fr, .int .i64 seq, .int .i64 id, .int .i64 i, .int .i64 n, .string text, .slice A pn pc] := Bk.new _ _ _
  go_enter Try.func17, Try.ntmps17
  cases b2 with
  | false =>
    have Hno := Lib.hid (pktOk_fr Hb.out H2.out)
    go_wp2_with fail
    (with_reducible refine (word_any fr 1 false H2.out _).mono ?_)
    rintro e w2 ⟨rfl, rfl⟩
    go_wp2
    go_ret
    exact PY.mk Hno.out.symm hB
  | true =>
    cases b3 with
    | false =>
      have Hno := Lib.hid (pktOk_wd Hb.out (by decide) (.inl H3.out))
      go_wp2_with fail
      (with_reducible refine (word_any fr 1 true H2.out _).mono ?_)
      rintro e w2 ⟨rfl, rfl⟩
      go_wp2_with fail
      (with_reducible refine (word_any id 1 false H3.out _).mono ?_)
      rintro e w2 ⟨rfl, rfl⟩
      go_wp2
      go_ret
      exact PY.mk Hno.out.symm hB
    | true =>
      cases b4 with
      | false =>
        have Hno := Lib.hid (pktOk_wd Hb.out (by decide) (.inr H4.out))
        go_wp2_with fail
        (with_reducible refine (word_any fr 1 true H2.out _).mono ?_)
        rintro e w2 ⟨rfl, rfl⟩
        go_wp2_with fail
        (with_reducible refine (word_any id 1 true H3.out _).mono ?_)
        rintro e w2 ⟨rfl, rfl⟩
        go_wp2_with fail
        (with_reducible refine (word_any seq 0 false H4.out _).mono ?_)
        rintro e w2 ⟨rfl, rfl⟩
        go_wp2
        go_ret
        exact PY.mk Hno.out.symm hB
      | true =>
        go_wp2_with fail
        (with_reducible refine (word_any fr 1 true H2.out _).mono ?_)
        rintro e w2 ⟨rfl, rfl⟩
        go_wp2_with fail
        (with_reducible refine (word_any id 1 true H3.out _).mono ?_)
        rintro e w2 ⟨rfl, rfl⟩
        go_wp2_with fail
        (with_reducible refine (word_any seq 0 true H4.out _).mono ?_)
        rintro e w2 ⟨rfl, rfl⟩
        obtain ⟨he, hhe⟩ : ∃ e, (takeB n text.toList).2 = e := ⟨_, rfl⟩
        have Hh := Lib.hid hhe
        have HQ := Lib.hid (show decide (he = 0 ∧ 0 < n ∧ 0 ≤ i ∧ i ≤ n ∧ pn = 0) = b by
          rw [← hhe, ← HP.out, ← Hb.out, ok_3, H2.out, H3.out, H4.out, Bool.true_and, Bool.true_and, Bool.true_and])
        clear hhe H2 H3 H4 Hb
        go_wp2_with fail
        (with_reducible refine (takeRef_e n text he Hh.out ht _).mono ?_)
        rintro e w2 ⟨A2, n2, c2, rfl, hb2⟩
        have hB2 := bl hB hb2
        have hG2 := hG.below' hb2
        have g4 := hG2.cell 4
        have g5 := hG2.cell 5
        have g7 := hG2.cell 7
        simp only [List.getElem?_toArray, List.getElem?_cons_succ, List.getElem?_cons_zero] at g4 g5 g7
        clear hG hG2 hb2 hB
        go_wp2
        all_goals go_ret
        all_goals
          refine PY.mk ?_ hB2
          rw [← HQ.out]
          clear HQ Hh g4 g5 g7
          rw [Bool.eq_iff_iff]
          simp_all <;> omega

theorem pmay_any (kind fr seq id i n : Int) (text : ByteArray) (A : Option Addr) (pn pc : Nat) (P : List ByteArray) (b : Bool) (w : World) (hb : pktOk kind fr seq id i n text P = b) (hP : P.length = pn) (hr : Rd w A (P.map Value.string)) (ht : text.size ≤ 9223372036854775807) (hn : pn ≤ 9223372036854775807) :
    Calls Try.prog 17 #[.agg #[.int .i64 kind, .int .i64 fr, .int .i64 seq, .int .i64 id, .int .i64 i, .int .i64 n, .string text, .slice A pn pc]] w (PY w b) := by
  by_cases h1 : kind = 1
  · subst h1; exact pmay_1 fr seq id i n text A pn pc P b w hb hP hr ht hn
  · by_cases h2 : kind = 2
    · subst h2; exact pmay_2 fr seq id i n text A pn pc P b w hb hP hr ht hn
    · by_cases h3 : kind = 3
      · subst h3; exact pmay_3 fr seq id i n text A pn pc P b w hb hP hr ht hn
      · exact pmay_0 kind fr seq id i n text A pn pc P b w hb hP hr ht hn h1 h2 h3
end Go.Proofs.Ytfkbcmmhpopdnaa
