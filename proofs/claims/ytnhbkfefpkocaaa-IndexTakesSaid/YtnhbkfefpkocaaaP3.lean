/-
  Comparing two texts: the plain law, and the walks. The walk of the law PathUnder.
-/
import Derived.Test.YtnhbkfefpkocaaaP2
import Derived.Test.YtnhbkfefpkocaaaFrame
namespace Go.Proofs.Ytnhbkfefpkocaaa
open Go.RowKit
open Go.Lib (compareBytes)

theorem cb_swap : ∀ a b : List UInt8, compareBytes b a = - compareBytes a b
  | [], [] => rfl
  | [], _ :: _ => rfl
  | _ :: _, [] => rfl
  | x :: a, y :: b => by
    unfold compareBytes
    by_cases h : x < y
    · have h' : ¬ y < x := UInt8.lt_asymm h
      simp [h, h']
    · by_cases h2 : y < x
      · simp [h, h2]
      · simp [h, h2, cb_swap a b]
theorem cb_self : ∀ a : List UInt8, compareBytes a a = 0
  | [] => rfl
  | x :: a => by unfold compareBytes; simp [UInt8.lt_irrefl, cb_self a]
theorem cb_range (a b : List UInt8) : compareBytes a b = -1 ∨ compareBytes a b = 0 ∨ compareBytes a b = 1 := by
  induction a generalizing b with
  | nil => cases b <;> simp [compareBytes]
  | cons x a ih =>
    cases b with
    | nil => simp [compareBytes]
    | cons y b =>
      unfold compareBytes
      split
      · simp
      · split
        · simp
        · exact ih b
theorem cb_take : ∀ (p : List UInt8) (n : Nat), n < p.length → compareBytes (p.take n) p = -1
  | [], n, h => by simp at h
  | x :: p, 0, _ => by simp [compareBytes]
  | x :: p, n + 1, h => by
    rw [List.take_succ_cons]
    unfold compareBytes
    simp [UInt8.lt_irrefl, cb_take p n (by simpa using h)]

theorem drop_str (s : ByteArray) (k : Nat) (h : k < s.size) : s.toList.drop k = s[k] :: s.toList.drop (k + 1) := by
  rw [List.drop_eq_getElem_cons (by rw [size_toList]; exact h)]
  congr 1
  exact (getElem_toList s k h).symm
theorem drop_end (s : ByteArray) (k : Nat) (h : s.size ≤ k) : s.toList.drop k = [] := List.drop_eq_nil_of_le (by rw [size_toList]; exact h)
theorem cb_cons (x y : UInt8) (a b : List UInt8) : compareBytes (x :: a) (y :: b) = if x < y then -1 else if y < x then 1 else compareBytes a b := rfl

/-- How two texts stand. -/
def cmpB (a b : ByteArray) : Int := compareBytes a.toList b.toList
theorem compare_any (a b : ByteArray) (w : World) :
    Calls Try.prog 47 #[.string a, .string b] w fun e w' => e = .returned (.int .i64 (cmpB a b)) ∧ w' = w := by
  go_enter Try.func47, Try.ntmps47
  go_wp2_with fail
  refine (Try.strings_Compare a b _).mono ?_
  rintro e w1 ⟨rfl, rfl⟩
  rw [toList_data, toList_data]
  go_wp2_with fail
  go_ret
  exact ⟨rfl, rfl⟩

set_option maxRecDepth 20000 in
set_option maxHeartbeats 2000000 in
theorem compareR_any (a b : ByteArray) (w : World) (ha : a.size ≤ 100000000) (hb : b.size ≤ 100000000) :
    Calls Try.prog 53 #[.string a, .string b] w fun e w' => e = .returned (.int .i64 (cmpB a b)) ∧ Below w.heap.size w w' := by
  obtain ⟨n, hn⟩ : ∃ n, cmpB a b = n := ⟨_, rfl⟩
  rw [hn]
  have Hn := Lib.hid hn
  clear hn
  go_enter Try.func53, Try.ntmps53
  go_wp2_with fail
  go_loopw [5] (fun i wr => ∃ k : Nat, k ≤ a.size ∧ k ≤ b.size ∧ i = .int .i64 k ∧ Hid (compareBytes (a.toList.drop k) (b.toList.drop k) = n) ∧ Below w.heap.size w wr) (fun i _ => a.size - (intOf i).toNat)
  case atStart => exact ⟨0, by omega, by omega, rfl, Lib.hid Hn.out, Below.refl _ _⟩
  case round =>
    obtain ⟨k, hka, hkb, rfl, hf, hbw⟩ := hrel
    by_cases h1 : k < a.size
    · by_cases h2 : k < b.size
      · have e := hf.out
        rw [drop_str a k h1, drop_str b k h2, cb_cons] at e
        clear hf
        by_cases hl : a[k] < b[k]
        · rw [if_pos hl] at e
          have t1 : (a[k].toNat : Int) < (b[k].toNat : Int) := by have := UInt8.lt_iff_toNat_lt.1 hl; omega
          clear hl
          subst e
          go_wp2_with fail
          go_quiet (fail)
          go_wp2_with fail
          go_ret
          exact ⟨rfl, below_drewN hbw _⟩
        · rw [if_neg hl] at e
          have t1 : ¬ ((a[k].toNat : Int) < (b[k].toNat : Int)) := by have := UInt8.not_lt.1 hl; have := UInt8.le_iff_toNat_le.1 this; omega
          by_cases hl2 : b[k] < a[k]
          · rw [if_pos hl2] at e
            have t2 : (b[k].toNat : Int) < (a[k].toNat : Int) := by have := UInt8.lt_iff_toNat_lt.1 hl2; omega
            clear hl hl2
            subst e
            go_wp2_with fail
            go_quiet (fail)
            go_wp2_with fail
            go_quiet (fail)
            go_wp2_with fail
            go_ret
            exact ⟨rfl, below_drewN (below_drewN hbw _) _⟩
          · rw [if_neg hl2] at e
            have t2 : ¬ ((b[k].toNat : Int) < (a[k].toNat : Int)) := by have := UInt8.not_lt.1 hl2; have := UInt8.le_iff_toNat_le.1 this; omega
            have H := Lib.hid e
            clear hl hl2 e
            go_wp2_with fail
            go_quiet (fail)
            go_wp2_with fail
            go_quiet (fail)
            go_wp2_with fail
            go_roundw
            case rel => exact ⟨k + 1, by omega, by omega, by go_num, H, below_drewN hbw _⟩
            case measure => simp [intOf]; omega
      · obtain rfl : k = b.size := by omega
        have e := hf.out
        rw [drop_str a _ h1, drop_end b _ (Nat.le_refl _)] at e
        have e' : n = 1 := e.symm
        subst e'
        clear e hf
        go_wp2_with fail
        go_ret
        exact ⟨rfl, hbw⟩
    · obtain rfl : k = a.size := by omega
      have e := hf.out
      rw [drop_end a _ (Nat.le_refl _)] at e
      by_cases h2 : a.size < b.size
      · rw [drop_str b _ h2] at e
        have e' : n = -1 := e.symm
        subst e'
        clear e hf
        go_wp2_with fail
        go_ret
        exact ⟨rfl, hbw⟩
      · have h3 : a.size = b.size := by omega
        rw [drop_end b _ (by omega)] at e
        have e' : n = 0 := e.symm
        subst e'
        clear e hf
        go_wp2_with fail
        go_ret
        exact ⟨rfl, hbw⟩

/-- Is a text in a folder? -/
def und (p f : List UInt8) : Bool := decide (f.length < p.length ∧ p.getD f.length 0 = 47 ∧ p.take f.length = f)
theorem und_self (p : List UInt8) : und p p = false := decide_eq_false (by omega)
theorem und_cmp {p f : List UInt8} (h : und p f = true) : compareBytes f p = -1 := by
  have h' := of_decide_eq_true h
  rw [← h'.2.2]
  have := cb_take p f.length h'.1
  exact this
theorem prefix_take (p f : List UInt8) : Lib.hasPrefix p f = decide (p.take f.length = f) := by
  unfold Lib.hasPrefix
  rw [Bool.eq_iff_iff, decide_eq_true_eq, List.isPrefixOf_iff_prefix, List.prefix_iff_eq_take]
  exact eq_comm
theorem getD_str (s : ByteArray) (k : Nat) (h : k < s.size) : s.toList.getD k 0 = s[k] := by
  rw [List.getD_eq_getElem?_getD, List.getElem?_eq_getElem (by rw [size_toList]; exact h)]; exact (getElem_toList s k h).symm

set_option maxRecDepth 20000 in
theorem under_any (p f : ByteArray) (w : World) (hp : p.size ≤ 100000000) (hf : f.size ≤ 100000000) :
    Calls Try.prog 55 #[.string p, .string f] w fun e w' => e = .returned (.bool (und p.toList f.toList)) ∧ w' = w := by
  by_cases h1 : f.size < p.size
  · by_cases h2 : p[f.size] = 47
    · have t : p[f.size].toNat = 47 := by rw [h2]; rfl
      have H := Lib.hid (show decide (p.toList.take f.size = f.toList) = und p.toList f.toList by
        unfold und; rw [decide_eq_decide, size_toList, size_toList, getD_str p _ h1]
        exact ⟨fun h => ⟨h1, h2, h⟩, fun h => h.2.2⟩)
      clear h2
      obtain ⟨b, hb⟩ : ∃ b, und p.toList f.toList = b := ⟨_, rfl⟩
      rw [hb] at H ⊢
      clear hb
      go_enter Try.func55, Try.ntmps55
      go_wp2_with fail
      refine (Try.strings_HasPrefix p f _).mono ?_
      rintro e w1 ⟨rfl, rfl⟩
      rw [toList_data, toList_data, prefix_take, size_toList, H.out]
      go_wp2_with fail
      go_ret
      exact ⟨rfl, rfl⟩
    · have t : ¬ p[f.size].toNat = 47 := by intro e; exact h2 (UInt8.toNat_inj.1 (by rw [e]; rfl))
      have H := Lib.hid (show und p.toList f.toList = false from decide_eq_false (fun h => by
        rw [size_toList, getD_str p _ h1] at h; exact h2 h.2.1))
      clear h2
      go_enter Try.func55, Try.ntmps55
      go_wp2
      go_ret
      exact ⟨by rw [H.out]; rfl, rfl⟩
  · have H := Lib.hid (show und p.toList f.toList = false from decide_eq_false (fun h => by rw [size_toList, size_toList] at h; exact h1 h.1))
    go_enter Try.func55, Try.ntmps55
    go_wp2
    go_ret
    exact ⟨by rw [H.out]; rfl, rfl⟩

set_option maxRecDepth 20000 in
theorem underR_any (p f : ByteArray) (w : World) (hp : p.size ≤ 100000000) (hf : f.size ≤ 100000000) :
    Calls Try.prog 56 #[.string p, .string f] w fun e w' => e = .returned (.bool (und p.toList f.toList)) ∧ w' = w := by
  by_cases h1 : f.size < p.size
  · have hq : (p.extract 0 f.size).toList = p.toList.take f.size := toList_pre _ _
    by_cases h0 : p.toList.take f.size = f.toList
    · have t0 : (p.toList.take f.size == f.toList) = true := by rw [beq_iff_eq]; exact h0
      by_cases h2 : p[f.size] = 47
      · have t : p[f.size].toNat = 47 := by rw [h2]; rfl
        have H := Lib.hid (show und p.toList f.toList = true from decide_eq_true (by rw [size_toList, size_toList, getD_str p _ h1]; exact ⟨h1, h2, h0⟩))
        clear h2 h0
        go_enter Try.func56, Try.ntmps56
        go_wp2
        go_ret
        exact ⟨by rw [H.out]; rfl, rfl⟩
      · have t : ¬ p[f.size].toNat = 47 := by intro e; exact h2 (UInt8.toNat_inj.1 (by rw [e]; rfl))
        have t' : (((p[f.size].toNat : Nat) : Int) == 47) = false := by rw [beq_eq_false_iff_ne]; omega
        have H := Lib.hid (show und p.toList f.toList = false from decide_eq_false (fun h => by
          rw [size_toList, getD_str p _ h1] at h; exact h2 h.2.1))
        clear h2 h0
        go_enter Try.func56, Try.ntmps56
        go_wp2
        go_ret
        exact ⟨by rw [H.out]; rfl, rfl⟩
    · have t0 : (p.toList.take f.size == f.toList) = false := by rw [beq_eq_false_iff_ne]; exact h0
      have H := Lib.hid (show und p.toList f.toList = false from decide_eq_false (fun h => by rw [size_toList] at h; exact h0 h.2.2))
      clear h0
      go_enter Try.func56, Try.ntmps56
      go_wp2
      go_ret
      exact ⟨by rw [H.out]; rfl, rfl⟩
  · have H := Lib.hid (show und p.toList f.toList = false from decide_eq_false (fun h => by rw [size_toList, size_toList] at h; exact h1 h.1))
    go_enter Try.func56, Try.ntmps56
    go_wp2
    go_ret
    exact ⟨by rw [H.out]; rfl, rfl⟩

theorem compare_k (a b : ByteArray) (k : Int) (h : cmpB a b = k) (w : World) :
    Calls Try.prog 47 #[.string a, .string b] w fun e w' => e = .returned (.int .i64 k) ∧ w' = w := by subst h; exact compare_any a b w
theorem compareR_k (a b : ByteArray) (k : Int) (h : cmpB a b = k) (ha : a.size ≤ 100000000) (hb : b.size ≤ 100000000) (w : World) :
    Calls Try.prog 53 #[.string a, .string b] w fun e w' => e = .returned (.int .i64 k) ∧ Below w.heap.size w w' := by subst h; exact compareR_any a b w ha hb

end Go.Proofs.Ytnhbkfefpkocaaa
namespace Go.Proofs.Ytnhbkfefpkocaaa
open Go.RowKit

theorem under_k (p f : ByteArray) (k : Bool) (h : und p.toList f.toList = k) (hp : p.size ≤ 100000000) (hf : f.size ≤ 100000000) (w : World) :
    Calls Try.prog 55 #[.string p, .string f] w fun e w' => e = .returned (.bool k) ∧ w' = w := by subst h; exact under_any p f w hp hf
theorem underR_k (p f : ByteArray) (k : Bool) (h : und p.toList f.toList = k) (hp : p.size ≤ 100000000) (hf : f.size ≤ 100000000) (w : World) :
    Calls Try.prog 56 #[.string p, .string f] w fun e w' => e = .returned (.bool k) ∧ w' = w := by subst h; exact underR_any p f w hp hf

end Go.Proofs.Ytnhbkfefpkocaaa
