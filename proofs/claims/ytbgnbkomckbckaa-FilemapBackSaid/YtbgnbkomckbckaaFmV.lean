/-
  The laws FilemapOrder and FilemapApart: the plain law.
-/
import Derived.Test.YtbgnbkomckbckaaFmU
namespace Go.Proofs.Ytbgnbkomckbckaa
open Go.RowKit

theorem two_symm (x y : Fl) : two x y = two y x := by unfold two; exact Bool.or_comm _ _
theorem clash_pair (l : List Fl) : clashAny l = false ↔ l.Pairwise fun x y => two x y = false := by
  induction l with
  | nil => simp [clashAny]
  | cons x l ih =>
    rw [clashAny, Bool.or_eq_false_iff, List.pairwise_cons, ih, List.any_eq_false]
    exact ⟨fun h => ⟨fun y hy => by simpa using h.1 y hy, h.2⟩, fun h => ⟨fun y hy => by simpa using h.1 y hy, h.2⟩⟩
theorem chk_all (l : List Fl) : chk1 l = 0 ↔ ∀ x ∈ l, okP x.1 = 0 ∧ ¬ 1048576 < x.2.size := by
  induction l with
  | nil => simp [chk1]
  | cons x l ih =>
    rw [chk1]
    by_cases h1 : okP x.1 = 0
    · rw [if_pos h1]
      by_cases h2 : 1048576 < x.2.size
      · rw [if_pos h2]
        exact ⟨fun h => absurd h (by decide), fun h => absurd h2 (h x (by simp)).2⟩
      · rw [if_neg h2, ih]
        exact ⟨fun h y hy => by
          rcases List.mem_cons.1 hy with rfl | hy
          · exact ⟨h1, h2⟩
          · exact h y hy, fun h y hy => h y (by simp [hy])⟩
    · rw [if_neg h1]
      exact ⟨fun h => absurd h (by decide), fun h => absurd (h x (by simp)).1 h1⟩
theorem check_ok (l : List Fl) : checkF l = 0 ↔ l.length ≤ 64 ∧ (∀ x ∈ l, okP x.1 = 0 ∧ ¬ 1048576 < x.2.size) ∧ l.Pairwise fun x y => two x y = false := by
  unfold checkF
  rw [← chk_all, ← clash_pair]
  by_cases h1 : 64 < l.length
  · rw [if_pos h1]
    exact ⟨fun h => absurd h (by decide), fun h => by omega⟩
  · rw [if_neg h1]
    by_cases h2 : chk1 l = 0
    · rw [if_pos h2]
      cases h3 : clashAny l with
      | true => simp
      | false => simp [h2]; omega
    · rw [if_neg h2]
      exact ⟨fun h => absurd h h2, fun h => absurd h.2.1 h2⟩
theorem check_perm {l m : List Fl} (h : l.Perm m) : checkF l = 0 ↔ checkF m = 0 := by
  rw [check_ok, check_ok, h.length_eq, h.pairwise_iff (fun hxy => by rw [two_symm]; exact hxy)]
  exact ⟨fun ⟨a, b, c⟩ => ⟨a, fun x hx => b x (h.mem_iff.2 hx), c⟩, fun ⟨a, b, c⟩ => ⟨a, fun x hx => b x (h.mem_iff.1 hx), c⟩⟩
theorem two_ne {x y : Fl} (h : two x y = false) : x.1 ≠ y.1 := by
  unfold two bad at h
  simp only [Bool.or_eq_false_iff, decide_eq_false_iff_not] at h
  exact h.2.1
theorem short_perm {a b : List Fl} (h : a.Perm b) (hl : a.length ≤ 1) : a = b := by
  match a, h, hl with
  | [], h, _ => exact (List.nil_perm.1 h).symm
  | [x], h, _ => exact List.singleton_perm.1 h
theorem short_one {a : List Fl} {p : ByteArray} (h : a.Pairwise fun x y => two x y = false) (ha : ∀ x ∈ a, x.1 = p) : a.length ≤ 1 := by
  match a, h, ha with
  | [], _, _ => simp
  | [_], _, _ => simp
  | x :: y :: r, h, ha =>
    have := two_ne ((List.pairwise_cons.1 h).1 y (by simp))
    exact absurd ((ha x (by simp)).trans (ha y (by simp)).symm) this
theorem perm_stab {l m : List Fl} (h : l.Perm m) (hp : l.Pairwise fun x y => two x y = false) : Stab l m := fun p =>
  short_perm (h.filter _) (short_one (hp.filter _) (p := p) fun x hx => by simpa using (List.mem_filter.1 hx).2)
theorem put_perm {l m : List Fl} (h : l.Perm m) : putS l = putS m := by
  unfold putS
  by_cases h1 : checkF l = 0
  · rw [if_pos h1, if_pos ((check_perm h).1 h1)]
    have hs := perm_stab h ((check_ok l).1 h1).2.2
    have e : sortF m = sortF l := sortF_unique (sortF_law m).1 (hs.trans (sortF_law m).2.1)
    unfold putF
    rw [e, h.length_eq]
  · rw [if_neg h1, if_neg (fun h2 => h1 ((check_perm h).2 h2))]
theorem turn_perm (l : List Fl) (k : Nat) : l.Perm (l.drop k ++ l.take k) := by
  have := List.perm_append_comm (l₁ := l.take k) (l₂ := l.drop k)
  rwa [List.take_append_drop] at this
theorem putT_inj {s t : ByteArray} {r q : List UInt8} (hs : s.size ≤ 100000000) (ht : t.size ≤ 100000000) (h : putT s.toList ++ r = putT t.toList ++ q) : s = t ∧ r = q := by
  unfold putT at h
  rw [List.append_assoc, List.append_assoc] at h
  have e1 : clampN (s.toList.length : Int) = s.size := by rw [size_toList]; unfold clampN; omega
  have e2 : clampN (t.toList.length : Int) = t.size := by rw [size_toList]; unfold clampN; omega
  obtain ⟨h1, h2⟩ := putN_inj _ _ (clampN_le _) (clampN_le _) _ _ h
  rw [e1, e2] at h1
  have h3 := List.append_inj h2 (by rw [size_toList, size_toList]; exact h1)
  exact ⟨str_eq h3.1, h3.2⟩
theorem putL_inj : ∀ a b : List Fl, a.length = b.length → (∀ x ∈ a, x.1.size ≤ 100000000 ∧ x.2.size ≤ 100000000) → (∀ x ∈ b, x.1.size ≤ 100000000 ∧ x.2.size ≤ 100000000) → putL a = putL b → a = b
  | [], [], _, _, _, _ => rfl
  | x :: a, y :: b, hl, ha, hb, h => by
    have hx := ha x (by simp)
    have hy := hb y (by simp)
    unfold putL at h
    rw [List.flatMap_cons, List.flatMap_cons, List.append_assoc, List.append_assoc] at h
    obtain ⟨e1, h2⟩ := putT_inj hx.1 hy.1 h
    obtain ⟨e2, h3⟩ := putT_inj hx.2 hy.2 h2
    rw [putL_inj a b (by simpa using hl) (fun z hz => ha z (by simp [hz])) (fun z hz => hb z (by simp [hz])) h3, show x = y from Prod.ext e1 e2]
theorem put_apart {a b : List Fl} (ha : ∀ x ∈ a, x.1.size ≤ 100000000 ∧ x.2.size ≤ 100000000) (hb : ∀ x ∈ b, x.1.size ≤ 100000000 ∧ x.2.size ≤ 100000000) (hla : a.length ≤ 1000) (hlb : b.length ≤ 1000) (h1 : checkF a = 0) (h2 : checkF b = 0) :
    putS a = putS b ↔ sortF a = sortF b := by
  unfold putS
  rw [if_pos h1, if_pos h2]
  constructor
  · intro h
    have h' := congrArg ByteArray.toList h
    rw [toList_ofL, toList_ofL] at h'
    unfold putF at h'
    obtain ⟨e1, e2⟩ := putN_inj _ _ (clampN_le _) (clampN_le _) _ _ h'
    have e3 : a.length = b.length := by unfold clampN at e1; omega
    exact putL_inj _ _ (by rw [(sortF_law a).2.2, (sortF_law b).2.2, e3]) (fun x hx => ha x (sortF_mem.1 hx)) (fun x hx => hb x (sortF_mem.1 hx)) e2
  · intro h
    have e3 : a.length = b.length := by rw [← (sortF_law a).2.2, ← (sortF_law b).2.2, h]
    unfold putF
    rw [h, e3]
end Go.Proofs.Ytbgnbkomckbckaa
