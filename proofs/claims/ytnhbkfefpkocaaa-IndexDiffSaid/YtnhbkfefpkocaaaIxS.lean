/-
  The reference's Find; Under, both.
-/
import Derived.Test.YtnhbkfefpkocaaaIxG
import Derived.Test.YtnhbkfefpkocaaaPathF
namespace Go.Proofs.Ytnhbkfefpkocaaa
open Go.RowKit Go.Sort

theorem str_eqX {a b : ByteArray} (h : a.toList = b.toList) : a = b := by
  have := beq_strI a b
  simpa [h] using this
theorem underX_is (p f : ByteArray) (b : Bool) (h : und p.toList f.toList = b) (w : World) (hp : p.size ≤ 100000000) (hf : f.size ≤ 100000000) :
    Calls Try.prog 55 #[.string p, .string f] w fun e w' => e = .returned (.bool b) ∧ w' = w := by subst h; exact under_any p f w hp hf
theorem underRX_is (p f : ByteArray) (b : Bool) (h : und p.toList f.toList = b) (w : World) (hp : p.size ≤ 100000000) (hf : f.size ≤ 100000000) :
    Calls Try.prog 56 #[.string p, .string f] w fun e w' => e = .returned (.bool b) ∧ w' = w := by subst h; exact underR_any p f w hp hf
/-- Where a path's file stands first; -1: nowhere. -/
def FndI (p : ByteArray) (L : List It) (k : Int) : Prop := (k = -1 ∧ ∀ y ∈ L, y.p ≠ p) ∨ ∃ i : Nat, k = (i : Int) ∧ (∃ y, L[i]? = some y ∧ y.p = p) ∧ ∀ y ∈ L.take i, y.p ≠ p

set_option maxRecDepth 20000 in
set_option maxHeartbeats 2000000 in
theorem rfind_any (L : List It) (A : Option Addr) (n c : Nat) (hn : L.length = n) (hl : n ≤ 1000000) (p : ByteArray) (w : World) (hr : Rd w A (itf L)) :
    Calls Try.prog 19 #[.slice A n c, .string p] w fun e w' => ∃ k : Int, e = .returned (.int .i64 k) ∧ FndI p L k ∧ Below w.heap.size w w' := by
  have HN := Lib.hid (And.intro hn trivial)
  have HR := Lib.hid hr
  clear hn hr
  go_enter Try.func19, Try.ntmps19
  go_wp2_with fail
  go_loopw [5] (fun vi wr => ∃ i : Nat, vi = .int .i64 (i : Nat) ∧ i ≤ n ∧ Hid (∀ y ∈ L.take i, y.p ≠ p) ∧ Hid (Below w.heap.size w wr)) (fun vi _ => n - iOfI vi)
  case atStart => exact ⟨0, rfl, by omega, Lib.hid (by simp), Lib.hid (Below.refl _ _)⟩
  case round =>
    obtain ⟨i, rfl, hi, HF, HB⟩ := hrel
    by_cases hin : i < n
    · have hin1 : (i : Int) < (n : Int) := by omega
      obtain ⟨y, hy⟩ : ∃ y, L[i]? = some y := ⟨_, List.getElem?_eq_getElem (by rw [HN.out.1]; exact hin)⟩
      obtain ⟨g, o, rfl, hbl, r0, r1, r2, r3⟩ := (HR.out.below HB.out).item hy
      have HY := Lib.hid hy
      clear hy
      by_cases he : y.p = p
      · have e0 : (y.p.toList == p.toList) = true := by rw [he]; simp
        have HE := Lib.hid he
        clear he
        go_wp2_with fail
        go_ret
        exact ⟨_, rfl, .inr ⟨i, rfl, ⟨y, HY.out, HE.out⟩, HF.out⟩, HB.out⟩
      · have e0 : (y.p.toList == p.toList) = false := by rw [beq_strI]; exact decide_eq_false he
        have HE := Lib.hid he
        clear he
        go_wp2_with fail
        go_round
        case rel => exact ⟨i + 1, by first | rfl | go_num, by omega, Lib.hid (fun z hz => by
          rw [List.take_add_one, HY.out] at hz
          rcases List.mem_append.1 hz with h | h
          · exact HF.out z h
          · simp at h; rw [h]; exact HE.out), HB⟩
        case measure => simp [iOfI]; omega
    · have hin1 : ¬ ((i : Int) < (n : Int)) := by omega
      go_wp2_with fail
      go_ret
      exact ⟨_, rfl, .inl ⟨rfl, fun y hy => HF.out y (by rw [List.take_of_length_le (by rw [HN.out.1]; omega)]; exact hy)⟩, HB.out⟩

/-- Files in a folder. -/
def undI (f : ByteArray) (L : List It) : List It := L.filter fun y => und y.p.toList f.toList
theorem und_pre (p f : List UInt8) : und p f = true ↔ f ++ [47] <+: p := by
  unfold und
  rw [decide_eq_true_eq]
  constructor
  · rintro ⟨h1, h2, h3⟩
    refine ⟨p.drop (f.length + 1), ?_⟩
    have e : p.drop f.length = p[f.length] :: p.drop (f.length + 1) := List.drop_eq_getElem_cons h1
    have e2 : p[f.length] = 47 := by rw [List.getD_eq_getElem?_getD, List.getElem?_eq_getElem h1] at h2; exact h2
    rw [e2] at e
    have e3 := List.take_append_drop f.length p
    rw [h3, e] at e3
    rw [List.append_assoc]
    exact e3
  · rintro ⟨t, rfl⟩
    rw [List.append_assoc]
    refine ⟨by simp, ?_, by simp⟩
    rw [List.getD_eq_getElem?_getD, List.getElem?_append_right (Nat.le_refl _)]
    simp
theorem pre_between : ∀ (q y z : List UInt8), ¬ y < q → ¬ z < y → q <+: z → q <+: y
  | [], y, z, _, _, _ => List.nil_prefix
  | a :: q, [], z, h1, _, _ => absurd (List.nil_lt_cons a q) h1
  | a :: q, b :: y, [], _, _, h3 => by simp at h3
  | a :: q, b :: y, c :: z, h1, h2, h3 => by
    obtain ⟨hac, h4⟩ := List.cons_prefix_cons.1 h3
    subst hac
    rw [List.cons_lt_cons_iff] at h1 h2
    have hab : a = b := by
      have n1 : ¬ b < a := fun h => h1 (.inl h)
      have n2 : ¬ a < b := fun h => h2 (.inl h)
      exact UInt8.le_antisymm (UInt8.not_lt.1 n1) (UInt8.not_lt.1 n2)
    subst hab
    exact List.cons_prefix_cons.2 ⟨rfl, pre_between q y z (fun h => h1 (.inr ⟨rfl, h⟩)) (fun h => h2 (.inr ⟨rfl, h⟩)) h4⟩
theorem pos_low {p : ByteArray} {L : List It} (hS : SrtI L) : ∀ y ∈ L.take (posI p L), y.p.toList < p.toList := by
  obtain ⟨A, B, hL, hA, hlt, _⟩ := pos_split p L hS
  intro y hy
  rw [← hA, hL, List.take_left] at hy
  exact hlt y hy
theorem pos_high {p : ByteArray} {L : List It} (hS : SrtI L) : ∀ y ∈ L.drop (posI p L), ¬ y.p.toList < p.toList := by
  obtain ⟨A, B, hL, hA, _, hor⟩ := pos_split p L hS
  intro y hy
  rw [← hA, hL, List.drop_left] at hy
  rcases hor with ⟨_, z, B', rfl, hz, hb⟩ | ⟨_, hb⟩
  · rcases List.mem_cons.1 hy with h | h
    · rw [h, hz]; exact List.lt_irrefl _
    · exact fun h2 => List.lt_asymm h2 (hb y h)
  · exact fun h2 => List.lt_asymm h2 (hb y hy)
theorem undI_stop {L : List It} (hS : SrtI L) (f q : ByteArray) (hq : q.toList = f.toList ++ [47]) (i : Nat) (hpi : posI q L ≤ i) (hi : i ≤ L.length)
    (hall : ∀ y ∈ (L.take i).drop (posI q L), und y.p.toList f.toList = true) (hend : i = L.length ∨ ∃ y, L[i]? = some y ∧ und y.p.toList f.toList = false) : undI f L = (L.take i).drop (posI q L) := by
  have hlow : ∀ y ∈ L.take (posI q L), und y.p.toList f.toList = false := fun y hy => by
    have h := pos_low hS y hy
    cases hu : und y.p.toList f.toList with
    | false => rfl
    | true =>
      rw [und_pre, ← hq] at hu
      obtain ⟨t, ht⟩ := hu
      exfalso
      rw [← ht] at h
      exact absurd h (List.not_lt.2 (List.prefix_append _ _).le)
  have hhigh : ∀ z ∈ L.drop i, und z.p.toList f.toList = false := fun z hz => by
    rcases hend with h | ⟨y, hy, hyu⟩
    · rw [List.drop_of_length_le (by omega)] at hz
      cases hz
    · cases hu : und z.p.toList f.toList with
      | false => rfl
      | true =>
        rw [und_pre, ← hq] at hu
        obtain ⟨k, hk⟩ := List.mem_iff_getElem?.1 hz
        rw [List.getElem?_drop] at hk
        have hle := srtI_le hS (Nat.le_add_right i k) hy hk
        have hyh : ¬ y.p.toList < q.toList := pos_high hS y (by
          refine List.mem_iff_getElem?.2 ⟨i - posI q L, ?_⟩
          rw [List.getElem?_drop, show posI q L + (i - posI q L) = i by omega]
          exact hy)
        have := pre_between _ _ _ hyh (List.not_lt.2 hle) hu
        rw [hq, ← und_pre, hyu] at this
        cases this
  have e1 : L = L.take (posI q L) ++ ((L.take i).drop (posI q L) ++ L.drop i) := by
    have e2 := List.take_append_drop (posI q L) (L.take i)
    rw [List.take_take, Nat.min_eq_left hpi] at e2
    rw [← List.append_assoc, e2, List.take_append_drop]
  unfold undI
  conv => lhs; rw [e1]
  rw [List.filter_append, List.filter_append, List.filter_eq_nil_iff.2 (fun y hy => by rw [hlow y hy]; simp), List.filter_eq_self.2 hall, List.filter_eq_nil_iff.2 (fun y hy => by rw [hhigh y hy]; simp), List.nil_append, List.append_nil]
theorem undI_succ {l : List It} {j : Nat} {y : It} (f : ByteArray) (h : l[j]? = some y) : undI f (l.take (j + 1)) = undI f (l.take j) ++ (if und y.p.toList f.toList = true then [y] else []) := by
  unfold undI
  rw [List.take_add_one, h, List.filter_append]
  cases hy : und y.p.toList f.toList <;> simp [hy]
theorem at_is (L : List It) (A : Option Addr) (n c : Nat) (hn : L.length = n) (hl : n ≤ 1000000) (hS : SrtI L) (p : ByteArray) (k : Nat) (b : Bool) (h1 : posI p L = k) (h2 : foundI p L = b) (w : World) (hr : Rd w A (itf L)) :
    Calls Try.prog 54 #[.agg #[.slice A n c], .string p] w fun e w' => e = .returned (.tuple #[.int .i64 (k : Nat), .bool b]) ∧ Below w.heap.size w w' := by
  subst h1 h2
  exact at_any L A n c hn hl hS p w hr

/-- Files as a call's answer. -/
def SlE (w : World) (l : List It) (e : Ending) (w' : World) : Prop := ∃ B d, e = .returned (.slice B l.length d) ∧ l.length ≤ d ∧ d ≤ maxLen ∧ Rd w' B (itf l) ∧ Below w.heap.size w w'
theorem hone_it (y : It) : ∀ u ∈ (#[.string y.p, .int .i64 y.id, .int .i64 y.sz, .string y.sm] : Array Value).toList, u.oneCell' = true := fun u hu => by
  simp at hu
  rcases hu with rfl | rfl | rfl | rfl <;> rfl

set_option maxRecDepth 20000 in
set_option maxHeartbeats 4000000 in
theorem xunder_any (L : List It) (A : Option Addr) (n c : Nat) (hn : L.length = n) (hl : n ≤ 1000000) (hS : SrtI L) (hz : ∀ y ∈ L, y.p.size ≤ 100000000) (f : ByteArray) (hf : f.size ≤ 1000000) (hfe : f ≠ ⟨#[]⟩) (w : World) (hr : Rd w A (itf L)) :
    Calls Try.prog 26 #[.agg #[.slice A n c], .string f] w (SlE w (undI f L)) := by
  have HN := Lib.hid (And.intro hn (And.intro hS hz))
  have e1 : ¬ f.toList = [] := fun h => hfe (str_eqX (h.trans (toList_ofL []).symm))
  have e0 : f.toList.isEmpty = false := by cases h : f.toList with
    | nil => exact absurd h e1
    | cons a l => rfl
  obtain ⟨q, hq⟩ : ∃ q, f ++ (⟨#[47]⟩ : ByteArray) = q := ⟨_, rfl⟩
  have hq2 : q.toList = f.toList ++ [47] := by rw [← hq, toList_app]; exact congrArg _ (toList_ofL [47])
  have hcat : ¬ (9223372036854775807 < f.size + (⟨#[47]⟩ : ByteArray).size) := by have : (⟨#[47]⟩ : ByteArray).size = 1 := rfl; omega
  have hcat2 : ¬ (9223372036854775807 < f.size + 1) := by omega
  obtain ⟨w1, hw1⟩ : ∃ w1, w.alloc (.cells #[.slice A n c] 25) = w1 := ⟨_, rfl⟩
  have hb1 : Below w.heap.size w w1 := by rw [← hw1]; exact (Below.refl _ _).alloc (Nat.le_refl _) _
  have hs1 : w1.heap.size = w.heap.size + 1 := by rw [← hw1]; simp
  have hk1 : Bk w1 w.heap.size 25 #[.slice A n c] := by rw [← hw1]; exact Bk.new _ _ _
  have cx := hk1.cell_ 0 (.slice A n c) rfl
  have H1 := Lib.hid (And.intro hb1 (And.intro hs1 (And.intro hk1 (And.intro (hr.below hb1) hq2))))
  have HW1 := Lib.hid hw1
  obtain ⟨pos, hpos⟩ : ∃ pos, posI q L = pos := ⟨_, rfl⟩
  obtain ⟨fo, hfo⟩ : ∃ fo, foundI q L = fo := ⟨_, rfl⟩
  have hpn : pos ≤ n := by rw [← hpos, ← hn]; exact posI_le _ _
  have HPO := Lib.hid (And.intro hpos hfo)
  clear hn hS hr hfe hb1 hs1 hk1 hw1 hq2 hpos hfo hz
  go_enter Try.func26, Try.ntmps26
  go_wp2_with fail
  rw [HW1.out]
  clear HW1
  refine (at_is L A n c HN.out.1 hl HN.out.2.1 q pos fo HPO.out.1 HPO.out.2 w1 H1.out.2.2.2.1).mono ?_
  rintro e w2 ⟨rfl, hb2⟩
  have HB2 := Lib.hid hb2
  clear hb2 cx e0 e1 hq
  go_wp2_with fail
  go_loopw [5, 6] (fun vo vi wr => ∃ (i k : Nat), vi = .int .i64 (i : Nat) ∧ pos ≤ i ∧ i ≤ n ∧ k = i - pos ∧ Hid (∀ y ∈ (L.take i).drop pos, und y.p.toList f.toList = true) ∧ Hid (wr.ownsRow (w.heap.size + 1) 46 4 vo k (itf ((L.take i).drop pos))) ∧ Hid (Below w1.heap.size w1 wr)) (fun _ vi _ => n - iOfI vi)
  case atStart => exact ⟨pos, 0, rfl, by omega, hpn, by omega, Lib.hid (by simp), Lib.hid (by rw [List.drop_of_length_le (by rw [List.length_take]; omega)]; exact ⟨rfl, Or.inl ⟨rfl, rfl⟩⟩), HB2⟩
  case round =>
    clear HB2
    obtain ⟨i, k, rfl, hpi, hi, rfl, HA, HO, HB⟩ := hrel
    have cx := (H1.out.2.2.1.below' HB.out).cell_ 0 (.slice A n c) rfl
    have hend : (i = n ∨ ∃ y, L[i]? = some y ∧ und y.p.toList f.toList = false) → SlE w (undI f L) (.returned u5) wr := fun h => by
      have e := undI_stop HN.out.2.1 f q H1.out.2.2.2.2 i (by rw [HPO.out.1]; exact hpi) (by rw [HN.out.1]; exact hi) (by rw [HPO.out.1]; exact HA.out) (by rw [HN.out.1]; exact h)
      rw [HPO.out.1] at e
      obtain ⟨_, B, d, rfl, h1, h2, h3⟩ := Sl.own HO.out
      have hlen : ((L.take i).drop pos).length = i - pos := by rw [List.length_drop, List.length_take, HN.out.1, Nat.min_eq_left hi]
      rw [e]
      exact ⟨B, d, by rw [hlen], by rw [hlen]; exact h1, h2, h3, bl H1.out.1 HB.out⟩
    have HEND := Lib.hid hend
    clear hend
    by_cases hin : i < n
    · have hin1 : (i : Int) < (n : Int) := by omega
      obtain ⟨y, hy⟩ : ∃ y, L[i]? = some y := ⟨_, List.getElem?_eq_getElem (by rw [HN.out.1]; exact hin)⟩
      obtain ⟨g, o, rfl, hbl, r0, r1, r2, r3⟩ := (H1.out.2.2.2.1.below HB.out).item hy
      obtain ⟨b, hb⟩ : ∃ b, und y.p.toList f.toList = b := ⟨_, rfl⟩
      have HY := Lib.hid (And.intro hy (And.intro hb (HN.out.2.2 y (List.mem_of_getElem? hy))))
      clear hy hb hbl
      cases b with
      | false =>
        go_wp2_with (go_at_call 55; refine (underX_is y.p f false HY.out.2.1 _ HY.out.2.2 (by omega)).mono ?_; rintro e w3 ⟨rfl, rfl⟩)
        go_ret
        exact HEND.out (.inr ⟨y, HY.out.1, HY.out.2.1⟩)
      | true =>
        have HH := Lib.hid (And.intro (hone_it y) (show w.heap.size + 1 ≤ wr.heap.size by have := HB.out.size; have := H1.out.2.1; omega))
        go_wp2_with (first
          | (go_at_call 55; refine (underX_is y.p f true HY.out.2.1 _ HY.out.2.2 (by omega)).mono ?_; rintro e w3 ⟨rfl, rfl⟩)
          | (at_builtin; go_must (refine wpList_append_new _ rfl (.tmp 36) (.tmp 42) 23 rfl (w.heap.size + 1) 46 4 48 el_item _ _ _ HO.out (by rfl) _ (by rfl) rfl HH.out.1 (by unfold maxLen; omega) (by omega) HH.out.2 ?_); intro v5 w5 ho5 hb5))
        have ht : (L.take (i + 1)).drop pos = (L.take i).drop pos ++ [y] := by
          rw [List.take_add_one, HY.out.1, List.drop_append_of_le_length (by rw [List.length_take, HN.out.1]; omega)]
          rfl
        have ho6 : w5.ownsRow (w.heap.size + 1) 46 4 v5 (i + 1 - pos) (itf ((L.take (i + 1)).drop pos)) := by
          rw [ht, itf_app, show i + 1 - pos = i - pos + 1 by omega]
          exact ho5
        have hb6 : Below w1.heap.size w1 w5 := HB.out.trans (hb5.mono (by have := H1.out.2.1; omega))
        have H6 := Lib.hid (And.intro ho6 (And.intro hb6 (show ∀ z ∈ (L.take (i + 1)).drop pos, und z.p.toList f.toList = true from fun z hz => by
          rw [ht] at hz
          rcases List.mem_append.1 hz with h | h
          · exact HA.out z h
          · simp at h; rw [h]; exact HY.out.2.1)))
        clear ho5 hb5 ho6 hb6 ht
        first
          | (go_round
             case rel => exact ⟨i + 1, i + 1 - pos, by first | rfl | go_num, by omega, by omega, rfl, Lib.hid H6.out.2.2, Lib.hid H6.out.1, Lib.hid H6.out.2.1⟩
             case measure => simp [iOfI]; omega)
          | exact ⟨⟨i + 1, i + 1 - pos, by first | rfl | go_num, by omega, by omega, rfl, Lib.hid H6.out.2.2, Lib.hid H6.out.1, Lib.hid H6.out.2.1⟩, by simp [iOfI]; omega⟩
    · obtain rfl : i = n := by omega
      have hin1 : ¬ ((i : Int) < (i : Int)) := by omega
      go_wp2_with fail
      go_ret
      first | exact HEND.out (.inl rfl) | exact HEND.out (.inl trivial)

set_option maxRecDepth 20000 in
set_option maxHeartbeats 2000000 in
theorem xunder_all (L : List It) (A : Option Addr) (n c : Nat) (hn : L.length = n) (hl : n ≤ 1000000) (w : World) (hr : Rd w A (itf L)) :
    Calls Try.prog 26 #[.agg #[.slice A n c], .string ⟨#[]⟩] w fun e w' => ∃ B d, e = .returned (.slice B n d) ∧ n ≤ d ∧ d ≤ maxLen ∧ Rd w' B (itf L) ∧ Below w.heap.size w w' := by
  have HN := Lib.hid (And.intro hn trivial)
  have e0 : ((⟨#[]⟩ : ByteArray).toList == (⟨#[]⟩ : ByteArray).toList) = true := by simp
  obtain ⟨w1, hw1⟩ : ∃ w1, w.alloc (.cells #[.slice A n c] 25) = w1 := ⟨_, rfl⟩
  have hb1 : Below w.heap.size w w1 := by rw [← hw1]; exact (Below.refl _ _).alloc (Nat.le_refl _) _
  have H1 := Lib.hid (And.intro hb1 (hr.below hb1))
  have cx := (by rw [← hw1]; exact Bk.new _ _ _ : Bk w1 w.heap.size 25 #[.slice A n c]).cell_ 0 (.slice A n c) rfl
  have HW1 := Lib.hid hw1
  clear hn hr hb1 hw1
  go_enter Try.func26, Try.ntmps26
  go_wp2_with fail
  rw [HW1.out]
  clear HW1
  refine (list_any L A n c HN.out.1 hl w1 H1.out.2).mono ?_
  rintro e w2 ⟨B, d, rfl, h1, h2, h3, hb2⟩
  have H2 := Lib.hid (And.intro h3 (bl H1.out.1 hb2))
  clear h3 hb2 cx
  go_wp2_with fail
  go_ret
  exact ⟨B, d, rfl, h1, h2, H2.out.1, H2.out.2⟩
/-- The reference's answer: of the empty path all. -/
def undR (f : ByteArray) (L : List It) : List It := if f = ⟨#[]⟩ then L else undI f L

set_option maxRecDepth 20000 in
set_option maxHeartbeats 4000000 in
theorem runder_any (L : List It) (A : Option Addr) (n c : Nat) (hn : L.length = n) (hl : n ≤ 1000000) (hz : ∀ y ∈ L, y.p.size ≤ 100000000) (f : ByteArray) (hf : f.size ≤ 1000000) (w : World) (hr : Rd w A (itf L)) :
    Calls Try.prog 27 #[.slice A n c, .string f] w (SlE w (undR f L)) := by
  have HN := Lib.hid (And.intro hn hz)
  have HR := Lib.hid hr
  have hst : ∀ i y, L[i]? = some y → undR f (L.take (i + 1)) = undR f (L.take i) ++ (if (decide (f = ⟨#[]⟩) || und y.p.toList f.toList) = true then [y] else []) := fun i y h => by
    unfold undR
    by_cases hf : f = ⟨#[]⟩
    · rw [if_pos hf, if_pos hf, List.take_add_one, h]; simp [hf]
    · rw [if_neg hf, if_neg hf, undI_succ f h]; simp [hf]
  have h0 : undR f (L.take 0) = [] := by unfold undR undI; split <;> rfl
  have hle : ∀ i, (undR f (L.take i)).length ≤ i := fun i => by
    unfold undR undI
    split
    · rw [List.length_take]; omega
    · exact Nat.le_trans (List.length_filter_le _ _) (by rw [List.length_take]; omega)
  have HST := Lib.hid (And.intro hst (And.intro h0 hle))
  clear hn hr hz hst h0 hle
  go_enter Try.func27, Try.ntmps27
  go_wp2_with fail
  go_loopw [5, 6] (fun vo vi wr => ∃ (i k : Nat), vi = .int .i64 (i : Nat) ∧ i ≤ n ∧ k ≤ i ∧ Hid ((undR f (L.take i)).length = k ∧ True) ∧ Hid (wr.ownsRow w.heap.size 46 4 vo k (itf (undR f (L.take i)))) ∧ Hid (Below w.heap.size w wr)) (fun _ vi _ => n - iOfI vi)
  case atStart => exact ⟨0, 0, rfl, by omega, by omega, Lib.hid ⟨by rw [HST.out.2.1]; rfl, trivial⟩, Lib.hid (by rw [HST.out.2.1]; exact ⟨rfl, Or.inl ⟨rfl, rfl⟩⟩), Lib.hid (Below.refl _ _)⟩
  case round =>
    obtain ⟨i, k, rfl, hi, hki, HK, HO, HB⟩ := hrel
    by_cases hin : i < n
    · have hin1 : (i : Int) < (n : Int) := by omega
      obtain ⟨y, hy⟩ : ∃ y, L[i]? = some y := ⟨_, List.getElem?_eq_getElem (by rw [HN.out.1]; exact hin)⟩
      obtain ⟨g, o, rfl, hbl, r0, r1, r2, r3⟩ := (HR.out.below HB.out).item hy
      have hs := HST.out.1 i y hy
      have hyz := HN.out.2 y (List.mem_of_getElem? hy)
      have HH := Lib.hid (And.intro (hone_it y) HB.out.size)
      obtain ⟨b, hb⟩ : ∃ b, und y.p.toList f.toList = b := ⟨_, rfl⟩
      rw [hb] at hs
      have HY := Lib.hid (And.intro hs (And.intro hb hyz))
      clear hy hs hbl hb hyz
      by_cases hfe : f = ⟨#[]⟩
      · have hs2 : undR f (L.take (i + 1)) = undR f (L.take i) ++ [y] := by rw [HY.out.1]; simp [hfe]
        have HS2 := Lib.hid (And.intro hs2 trivial)
        clear hs2
        subst hfe
        go_wp2_with (at_builtin; go_must (refine wpList_append_new _ rfl (.tmp 24) (.tmp 29) 23 rfl w.heap.size 46 4 48 el_item _ _ _ HO.out (by rfl) _ (by rfl) rfl HH.out.1 (by unfold maxLen; omega) (by omega) HH.out.2 ?_); intro v5 w5 ho5 hb5)
        have ho6 : w5.ownsRow w.heap.size 46 4 v5 (k + 1) (itf (undR ⟨#[]⟩ (L.take (i + 1)))) := by
          rw [HS2.out.1, itf_app]
          exact ho5
        have H6 := Lib.hid (And.intro ho6 (HB.out.trans hb5))
        clear ho5 hb5 ho6
        first
          | (go_round
             case rel => exact ⟨i + 1, k + 1, by first | rfl | go_num, by omega, by omega, Lib.hid ⟨by rw [HS2.out.1, List.length_append, HK.out.1]; rfl, trivial⟩, Lib.hid H6.out.1, Lib.hid H6.out.2⟩
             case measure => simp [iOfI]; omega)
          | exact ⟨⟨i + 1, k + 1, by first | rfl | go_num, by omega, by omega, Lib.hid ⟨by rw [HS2.out.1, List.length_append, HK.out.1]; rfl, trivial⟩, Lib.hid H6.out.1, Lib.hid H6.out.2⟩, by simp [iOfI]; omega⟩
      · have e1 : ¬ f.toList = [] := fun h => hfe (str_eqX (h.trans (toList_ofL []).symm))
        have e0 : f.toList.isEmpty = false := by cases h : f.toList with
          | nil => exact absurd h e1
          | cons a l => rfl
        cases b with
        | true =>
          have hs2 : undR f (L.take (i + 1)) = undR f (L.take i) ++ [y] := by rw [HY.out.1]; simp
          have HS2 := Lib.hid (And.intro hs2 trivial)
          clear hs2 hfe
          go_wp2_with (first
            | (go_at_call 56; refine (underRX_is y.p f true HY.out.2.1 _ HY.out.2.2 (by omega)).mono ?_; rintro e w3 ⟨rfl, rfl⟩)
            | (at_builtin; go_must (refine wpList_append_new _ rfl (.tmp 24) (.tmp 29) 23 rfl w.heap.size 46 4 48 el_item _ _ _ HO.out (by rfl) _ (by rfl) rfl HH.out.1 (by unfold maxLen; omega) (by omega) HH.out.2 ?_); intro v5 w5 ho5 hb5))
          have ho6 : w5.ownsRow w.heap.size 46 4 v5 (k + 1) (itf (undR f (L.take (i + 1)))) := by
            rw [HS2.out.1, itf_app]
            exact ho5
          have H6 := Lib.hid (And.intro ho6 (HB.out.trans hb5))
          clear ho5 hb5 ho6
          first
            | (go_round
               case rel => exact ⟨i + 1, k + 1, by first | rfl | go_num, by omega, by omega, Lib.hid ⟨by rw [HS2.out.1, List.length_append, HK.out.1]; rfl, trivial⟩, Lib.hid H6.out.1, Lib.hid H6.out.2⟩
               case measure => simp [iOfI]; omega)
            | exact ⟨⟨i + 1, k + 1, by first | rfl | go_num, by omega, by omega, Lib.hid ⟨by rw [HS2.out.1, List.length_append, HK.out.1]; rfl, trivial⟩, Lib.hid H6.out.1, Lib.hid H6.out.2⟩, by simp [iOfI]; omega⟩
        | false =>
          have hs2 : undR f (L.take (i + 1)) = undR f (L.take i) := by rw [HY.out.1]; simp [hfe]
          have HS2 := Lib.hid (And.intro hs2 trivial)
          clear hs2 hfe
          go_wp2_with (go_at_call 56; refine (underRX_is y.p f false HY.out.2.1 _ HY.out.2.2 (by omega)).mono ?_; rintro e w3 ⟨rfl, rfl⟩)
          go_round
          case rel => exact ⟨i + 1, k, by first | rfl | go_num, by omega, by omega, by rw [HS2.out.1]; exact HK, by rw [HS2.out.1]; exact HO, HB⟩
          case measure => simp [iOfI]; omega
    · obtain rfl : i = n := by omega
      have htk : L.take i = L := List.take_of_length_le (by rw [HN.out.1]; omega)
      have hin1 : ¬ ((i : Int) < (i : Int)) := by omega
      have HTK := Lib.hid (And.intro htk trivial)
      clear htk
      go_wp2_with fail
      go_ret
      obtain ⟨_, B, d, rfl, h1, h2, h3⟩ := Sl.own HO.out
      have hk := HK.out.1
      rw [HTK.out.1] at h3 hk
      exact ⟨B, d, by rw [hk]; rfl, by rw [hk]; exact h1, h2, h3, HB.out⟩
end Go.Proofs.Ytnhbkfefpkocaaa
