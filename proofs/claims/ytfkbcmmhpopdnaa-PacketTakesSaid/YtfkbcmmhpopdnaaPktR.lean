/-
  Packets: reading parts of a text, plainly; the reader's walks.
-/
import Derived.Test.YtfkbcmmhpopdnaaPktQ
namespace Go.Proofs.Ytfkbcmmhpopdnaa
open Go.RowKit

/-- A number of so many bytes ahead of a text, and what is left; the first fault stays. -/
def rdN (s : ByteArray) (b : Bool) (k : Nat) : Int × ByteArray × Bool := if k ≤ s.size then ((num (s.toList.take k) : Int), s.extract k s.size, b) else (0, ⟨#[]⟩, true)
/-- A text of so many bytes. -/
def rdT (s : ByteArray) (b : Bool) (k : Nat) : ByteArray × ByteArray × Bool := if b = false ∧ k ≤ s.size then (s.extract 0 k, s.extract k s.size, false) else (⟨#[]⟩, s, true)
/-- So many texts of 32 bytes. -/
def rdP : Nat → ByteArray → Bool → List ByteArray × ByteArray × Bool
  | 0, s, b => ([], s, b)
  | n + 1, s, b => if b = true then ([], s, b) else ((rdT s b 32).1 :: (rdP n (rdT s b 32).2.1 (rdT s b 32).2.2).1, (rdP n (rdT s b 32).2.1 (rdT s b 32).2.2).2)

theorem p256_cast {x k : Nat} (h : x < 256 ^ k) : (x : Int) < 256 ^ k := by
  have h1 := Int.ofNat_lt.2 h
  rw [Int.natCast_pow] at h1
  exact h1
theorem rdN_a {s r : ByteArray} {b : Bool} {k : Nat} {v : Int} (h : rdN s b k = (v, r, false)) : b = false ∧ s.toList = be v k ++ r.toList ∧ 0 ≤ v ∧ v < 256 ^ k := by
  unfold rdN at h
  split at h
  · rename_i hk
    simp only [Prod.mk.injEq] at h
    obtain ⟨rfl, rfl, rfl⟩ := h
    have hl : (s.toList.take k).length = k := by rw [List.length_take, size_toList]; omega
    have hn := num_lt (s.toList.take k)
    rw [hl] at hn
    refine ⟨rfl, ?_, by omega, p256_cast hn⟩
    have hb := be_num (s.toList.take k)
    rw [hl] at hb
    rw [hb, toList_suf, List.take_append_drop]
  · simp at h
theorem rdN_b {s : ByteArray} {k : Nat} {x : Int} {l : List UInt8} (h : s.toList = be x k ++ l) (h0 : 0 ≤ x) (h1 : x < 256 ^ k) : rdN s false k = (x, ofL l, false) := by
  have hs : s.size = k + l.length := by rw [← size_toList, h, List.length_append, be_length]
  have ht : s.toList.take k = be x k := by rw [h, List.take_left' (be_length x k)]
  unfold rdN
  rw [if_pos (by omega), ht, num_be, Int.emod_eq_of_lt h0 h1]
  refine Prod.ext rfl (Prod.ext (str_eq ?_) rfl)
  rw [toList_suf, toList_ofL, h, List.drop_left' (be_length x k)]
theorem rdT_a {s t r : ByteArray} {b : Bool} {k : Nat} (h : rdT s b k = (t, r, false)) : b = false ∧ s.toList = t.toList ++ r.toList ∧ t.size = k := by
  unfold rdT at h
  split at h
  · rename_i hk
    simp only [Prod.mk.injEq] at h
    obtain ⟨rfl, rfl, _⟩ := h
    refine ⟨hk.1, by rw [toList_pre, toList_suf, List.take_append_drop], ?_⟩
    rw [← size_toList, toList_pre, List.length_take, size_toList]; omega
  · simp at h
theorem rdT_b {s t : ByteArray} {k : Nat} {l : List UInt8} (h : s.toList = t.toList ++ l) (hk : t.size = k) : rdT s false k = (t, ofL l, false) := by
  have hs : s.size = k + l.length := by rw [← size_toList, h, List.length_append, size_toList, hk]
  unfold rdT
  rw [if_pos ⟨rfl, by omega⟩]
  have hl : t.toList.length = k := by rw [size_toList, hk]
  refine Prod.ext (str_eq ?_) (Prod.ext (str_eq ?_) rfl)
  · show (s.extract 0 k).toList = t.toList
    rw [toList_pre, h, List.take_left' hl]
  · show (s.extract k s.size).toList = (ofL l).toList
    rw [toList_suf, toList_ofL, h, List.drop_left' hl]
theorem rdP_bad (n : Nat) (s : ByteArray) : rdP n s true = ([], s, true) := by cases n <;> rfl
theorem rdP_0 (s : ByteArray) (b : Bool) : rdP 0 s b = ([], s, b) := rfl
theorem rdP_s (n : Nat) (s : ByteArray) : rdP (n + 1) s false = ((rdT s false 32).1 :: (rdP n (rdT s false 32).2.1 (rdT s false 32).2.2).1, (rdP n (rdT s false 32).2.1 (rdT s false 32).2.2).2) := rfl
theorem rdP_a : ∀ (n : Nat) (s : ByteArray) (b : Bool) (l : List ByteArray) (r : ByteArray), rdP n s b = (l, r, false) → b = false ∧ s.toList = cat l ++ r.toList ∧ l.length = n ∧ szB l = true
  | 0, s, b, l, r, h => by
    rw [rdP_0] at h
    simp only [Prod.mk.injEq] at h
    obtain ⟨rfl, rfl, rfl⟩ := h
    exact ⟨rfl, by simp [cat], rfl, rfl⟩
  | n + 1, s, true, l, r, h => by rw [rdP_bad] at h; simp at h
  | n + 1, s, false, l, r, h => by
    rw [rdP_s] at h
    rcases hq : rdT s false 32 with ⟨t, s2, b2⟩
    rw [hq] at h
    rcases hp : rdP n s2 b2 with ⟨l2, r2, b3⟩
    rw [hp] at h
    simp only [Prod.mk.injEq] at h
    obtain ⟨rfl, rfl, rfl⟩ := h
    obtain ⟨rfl, h2, h3, h4⟩ := rdP_a n s2 b2 l2 r2 hp
    obtain ⟨_, h5, h6⟩ := rdT_a hq
    refine ⟨rfl, ?_, by rw [List.length_cons, h3], ?_⟩
    · rw [h5, h2]; simp [cat]
    · unfold szB at h4 ⊢
      rw [List.all_cons, h4, decide_eq_true h6]; rfl
theorem rdP_b : ∀ (l : List ByteArray) (s : ByteArray) (x : List UInt8), s.toList = cat l ++ x → szB l = true → rdP l.length s false = (l, ofL x, false)
  | [], s, x, h, _ => by
    rw [List.length_nil, rdP_0]
    refine Prod.ext rfl (Prod.ext (str_eq ?_) rfl)
    rw [toList_ofL, h]; simp [cat]
  | y :: l, s, x, h, hz => by
    unfold szB at hz
    rw [List.all_cons, Bool.and_eq_true] at hz
    have hy := of_decide_eq_true hz.1
    have h2 : rdT s false 32 = (y, ofL (cat l ++ x), false) := rdT_b (by rw [h]; simp [cat]) hy
    rw [List.length_cons, rdP_s, h2, rdP_b l (ofL (cat l ++ x)) x (toList_ofL _) hz.2]

theorem takeF_rd (s : ByteArray) (b : Bool) (k : Nat) (h1 : 1 ≤ k) (h4 : k ≤ 4) : ∃ e : Int, takeF s.toList (k : Int) = ((rdN s b k).1, (rdN s b k).2.1.toList, e) ∧ (rdN s b k).2.2 = (b || (e != 0)) := by
  by_cases hk : k ≤ s.size
  · refine ⟨0, ?_, ?_⟩
    · unfold rdN
      rw [if_pos hk]
      exact takeF_k s k h1 h4 hk
    · unfold rdN; rw [if_pos hk]; cases b <;> rfl
  · refine ⟨2, ?_, ?_⟩
    · unfold rdN takeF
      rw [if_neg hk, if_neg (by omega), if_pos (by rw [size_toList]; omega), toList_nil]
    · unfold rdN; rw [if_neg hk]; cases b <;> rfl

set_option maxRecDepth 20000 in
set_option maxHeartbeats 1000000 in
theorem rnum_e (g : Nat) (s r : ByteArray) (b : Bool) (k v e : Int) (hv : takeF s.toList k = (v, r.toList, e)) (hs : s.size ≤ 9223372036854775807) (w : World) (hB : Bk w g 58 #[.string s, .bool b]) :
    Calls Try.prog 24 #[.pointer (some ⟨g, 0, none⟩), .int .i64 k] w fun x w' => x = .returned (.int .i64 v) ∧ Bk w' g 58 #[.string r, .bool (b || (e != 0))] ∧ w.grownBy w' (some g) := by
  have Hv := Lib.hid hv
  clear hv
  have p0 : w.cell? ⟨g, 0, none⟩ = some (.string s) := hB.cell 0
  cases b with
  | true =>
    go_enter Try.func24, Try.ntmps24
    go_wp2_with fail
    (with_reducible refine (takeF_is s r k v e _ hs Hv.out).mono ?_)
    rintro x w1 ⟨rfl, hb⟩
    have hB1 := hB.below' hb
    have p1 : w1.cell? ⟨g, 0, none⟩ = some (.string s) := hB1.cell 0
    have p2 : w1.cell? ⟨g, 1, none⟩ = some (.bool true) := hB1.cell 1
    have f1 := hB1.frozen 0
    have f2 := hB1.frozen 1
    have ho : w.grownBy ((w1.setCell ⟨g, 0, none⟩ (.string r)).setCell ⟨g, 1, none⟩ (.bool true)) (some g) := only_trans (only_trans (⟨hb.os, hb.tape, hb.output, hb.size, fun k hk _ => hb.block k hk⟩ : w.grownBy w1 (some g)) (only_set w1 g 0 (.string r))) (only_set _ g 1 (.bool true))
    have hB2 : Bk ((w1.setCell ⟨g, 0, none⟩ (.string r)).setCell ⟨g, 1, none⟩ (.bool true)) g 58 #[.string r, .bool true] := (hB1.set_ 0 _).set_ 1 _
    clear hb hB
    go_wp2_with fail
    go_ret
    exact ⟨rfl, hB2, ho⟩
  | false =>
    obtain ⟨q, hq⟩ : ∃ q, (e != 0) = q := ⟨_, rfl⟩
    rw [Bool.false_or, hq]
    go_enter Try.func24, Try.ntmps24
    go_wp2_with fail
    (with_reducible refine (takeF_is s r k v e _ hs Hv.out).mono ?_)
    rintro x w1 ⟨rfl, hb⟩
    have hB1 := hB.below' hb
    have p1 : w1.cell? ⟨g, 0, none⟩ = some (.string s) := hB1.cell 0
    have p2 : w1.cell? ⟨g, 1, none⟩ = some (.bool false) := hB1.cell 1
    have f1 := hB1.frozen 0
    have f2 := hB1.frozen 1
    have ho : w.grownBy ((w1.setCell ⟨g, 0, none⟩ (.string r)).setCell ⟨g, 1, none⟩ (.bool q)) (some g) := only_trans (only_trans (⟨hb.os, hb.tape, hb.output, hb.size, fun k hk _ => hb.block k hk⟩ : w.grownBy w1 (some g)) (only_set w1 g 0 (.string r))) (only_set _ g 1 (.bool q))
    have hB2 : Bk ((w1.setCell ⟨g, 0, none⟩ (.string r)).setCell ⟨g, 1, none⟩ (.bool q)) g 58 #[.string r, .bool q] := (hB1.set_ 0 _).set_ 1 _
    clear hb hB
    go_wp2_with fail
    go_ret
    exact ⟨rfl, hB2, ho⟩
theorem rnum_any (g : Nat) (s r : ByteArray) (b b2 : Bool) (k : Nat) (v : Int) (hv : rdN s b k = (v, r, b2)) (h1 : 1 ≤ k) (h4 : k ≤ 4) (hs : s.size ≤ 9223372036854775807) (w : World) (hB : Bk w g 58 #[.string s, .bool b]) :
    Calls Try.prog 24 #[.pointer (some ⟨g, 0, none⟩), .int .i64 (k : Int)] w fun x w' => x = .returned (.int .i64 v) ∧ Bk w' g 58 #[.string r, .bool b2] ∧ w.grownBy w' (some g) := by
  obtain ⟨e, he, hb⟩ := takeF_rd s b k h1 h4
  rw [hv] at he hb
  simp only at he hb
  subst hb
  exact rnum_e g s r b k v e he hs w hB

set_option maxRecDepth 20000 in
set_option maxHeartbeats 1000000 in
theorem rtext_any (g : Nat) (s t r : ByteArray) (b b2 : Bool) (k : Nat) (hv : rdT s b k = (t, r, b2)) (hk : k ≤ 9223372036854775807) (hs : s.size ≤ 9223372036854775807) (w : World) (hB : Bk w g 58 #[.string s, .bool b]) :
    Calls Try.prog 25 #[.pointer (some ⟨g, 0, none⟩), .int .i64 (k : Int)] w fun x w' => x = .returned (.string t) ∧ Bk w' g 58 #[.string r, .bool b2] ∧ w.grownBy w' (some g) := by
  have p1 : w.cell? ⟨g, 0, none⟩ = some (.string s) := hB.cell 0
  have p2 : w.cell? ⟨g, 1, none⟩ = some (.bool b) := hB.cell 1
  have f1 := hB.frozen 0
  have f2 := hB.frozen 1
  unfold rdT at hv
  cases b with
  | true =>
    rw [if_neg (by simp)] at hv
    simp only [Prod.mk.injEq] at hv
    obtain ⟨rfl, rfl, rfl⟩ := hv
    have ho := only_set w g 1 (.bool true)
    have hB2 : Bk (w.setCell ⟨g, 1, none⟩ (.bool true)) g 58 #[.string s, .bool true] := hB.set_ 1 _
    clear hB
    go_enter Try.func25, Try.ntmps25
    go_wp2
    go_ret
    exact ⟨rfl, hB2, ho⟩
  | false =>
    by_cases h : k ≤ s.size
    · rw [if_pos ⟨rfl, h⟩] at hv
      simp only [Prod.mk.injEq] at hv
      obtain ⟨rfl, rfl, rfl⟩ := hv
      have ho := only_set w g 0 (.string (s.extract k s.size))
      have hB2 : Bk (w.setCell ⟨g, 0, none⟩ (.string (s.extract k s.size))) g 58 #[.string (s.extract k s.size), .bool false] := hB.set_ 0 _
      have h' : ¬ ((s.size : Nat) : Int) < (k : Int) := by omega
      clear hB
      go_enter Try.func25, Try.ntmps25
      go_wp2
      go_ret
      exact ⟨rfl, hB2, ho⟩
    · rw [if_neg (fun e => h e.2)] at hv
      simp only [Prod.mk.injEq] at hv
      obtain ⟨rfl, rfl, rfl⟩ := hv
      have ho := only_set w g 1 (.bool true)
      have hB2 : Bk (w.setCell ⟨g, 1, none⟩ (.bool true)) g 58 #[.string s, .bool true] := hB.set_ 1 _
      have h' : ((s.size : Nat) : Int) < (k : Int) := by omega
      clear hB
      go_enter Try.func25, Try.ntmps25
      go_wp2
      go_ret
      exact ⟨rfl, hB2, ho⟩

/-- A text without what it begins with, if it does. -/
def cutP (s p : ByteArray) : ByteArray × Bool := if Lib.hasPrefix s.data.toList p.data.toList = true then (s.extract p.size s.size, true) else (s, false)
theorem cutP1_any (s p t : ByteArray) (b : Bool) (h : cutP s p = (t, b)) (w : World) : Calls Try.prog 44 #[.string s, .string p] w fun e w' => e = .returned (.tuple #[.string t, .bool b]) ∧ w = w' := by
  unfold cutP at h
  cases hp : Lib.hasPrefix s.data.toList p.data.toList with
  | true =>
    rw [hp, if_pos rfl] at h
    simp only [Prod.mk.injEq] at h
    obtain ⟨rfl, rfl⟩ := h
    have hz : p.size ≤ s.size := by
      have h1 : p.data.toList.isPrefixOf s.data.toList = true := hp
      rw [List.isPrefixOf_iff_prefix] at h1
      exact h1.length_le
    have Hp := Lib.hid hp
    clear hp
    go_enter Try.func44, Try.ntmps44
    go_wp2_with (refine (Try.stringslite_HasPrefix s p _).mono ?_; rintro e w' ⟨rfl, rfl⟩; rw [Hp.out])
    go_ret2
    exact ⟨rfl, rfl⟩
  | false =>
    rw [hp, if_neg (by simp)] at h
    simp only [Prod.mk.injEq] at h
    obtain ⟨rfl, rfl⟩ := h
    have Hp := Lib.hid hp
    clear hp
    go_enter Try.func44, Try.ntmps44
    go_wp2_with (refine (Try.stringslite_HasPrefix s p _).mono ?_; rintro e w' ⟨rfl, rfl⟩; rw [Hp.out])
    go_ret2
    exact ⟨rfl, rfl⟩
theorem cutP_any (s p t : ByteArray) (b : Bool) (h : cutP s p = (t, b)) (w : World) : Calls Try.prog 23 #[.string s, .string p] w fun e w' => e = .returned (.tuple #[.string t, .bool b]) ∧ w = w' := by
  have H := Lib.hid h
  clear h
  go_enter Try.func23, Try.ntmps23
  go_wp2_with fail
  (with_reducible refine (cutP1_any s p t b H.out _).mono ?_)
  rintro e w1 ⟨rfl, rfl⟩
  go_wp2_with fail
  go_ret2
  exact ⟨rfl, rfl⟩
end Go.Proofs.Ytfkbcmmhpopdnaa
