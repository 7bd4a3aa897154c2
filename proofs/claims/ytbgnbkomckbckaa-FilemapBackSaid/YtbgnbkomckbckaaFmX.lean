/-
  Files taken from bytes: the plain law.
-/
import Derived.Test.YtbgnbkomckbckaaFmW
namespace Go.Proofs.Ytbgnbkomckbckaa
open Go.RowKit

/-- Files taken one by one, behind those that have been: the fault, the files, what is left. -/
def tkF : Nat → List UInt8 → List Fl → Int × List Fl × List UInt8
  | 0, s, acc => (0, acc, s)
  | n + 1, s, acc =>
    if (takeT s 4096).2.2 ≠ 0 then ((takeT s 4096).2.2, [], []) else
    if (takeT (takeT s 4096).2.1 1048576).2.2 ≠ 0 then ((takeT (takeT s 4096).2.1 1048576).2.2, [], []) else
    if okP (ofL (takeT s 4096).1) ≠ 0 then (5, [], []) else
    if ∃ y, acc.getLast? = some y ∧ ¬ ltF y (ofL (takeT s 4096).1, ofL (takeT (takeT s 4096).2.1 1048576).1) then (2, [], []) else
    tkF n (takeT (takeT s 4096).2.1 1048576).2.1 (acc ++ [(ofL (takeT s 4096).1, ofL (takeT (takeT s 4096).2.1 1048576).1)])
/-- The files of bytes, or the fault. -/
def fin (x : Int × List Fl × List UInt8) : Int × List Fl := if x.1 ≠ 0 then (x.1, []) else if x.2.2 ≠ [] then (2, []) else if checkF x.2.1 ≠ 0 then (checkF x.2.1, []) else (0, x.2.1)
def takeFl (s : List UInt8) : Int × List Fl := match takeN s with
  | none => (2, [])
  | some (n, r) => if 64 < n then (3, []) else fin (tkF n r [])
theorem takeT_code (s : List UInt8) (most : Int) : (takeT s most).2.2 = 0 ∨ (takeT s most).2.2 = 2 ∨ (takeT s most).2.2 = 3 := by
  unfold takeT
  cases takeN s with
  | none => simp
  | some x =>
    obtain ⟨n, r⟩ := x
    simp only
    split
    · simp
    · split <;> simp
theorem takeT_len (s : List UInt8) (most : Int) : (takeT s most).1.length ≤ s.length ∧ (takeT s most).2.1.length ≤ s.length := by
  unfold takeT
  cases h : takeN s with
  | none => simp
  | some x =>
    obtain ⟨n, r⟩ := x
    have hr := (takeN_some s n r h).1
    simp only
    split
    · simp
    · split
      · simp
      · simp only [List.length_take, List.length_drop]
        rw [hr, List.length_append]
        omega
/-- What is taken is what was put. -/
theorem takeT_put {s : List UInt8} {most : Int} (h : (takeT s most).2.2 = 0) : s = putT (takeT s most).1 ++ (takeT s most).2.1 := by
  unfold takeT at h ⊢
  cases hn : takeN s with
  | none => rw [hn] at h; simp at h
  | some x =>
    obtain ⟨n, r⟩ := x
    obtain ⟨e, hm⟩ := takeN_some s n r hn
    rw [hn] at h
    simp only at h ⊢
    split at h
    · simp at h
    · split at h
      · simp at h
      · rename_i h1 h2
        rw [if_neg h1, if_neg h2]
        unfold putT
        have hl : (r.take n).length = n := by rw [List.length_take]; omega
        rw [hl, show clampN (n : Int) = n by unfold clampN; omega, List.append_assoc, List.take_append_drop]
        exact e
theorem takeT_of (a r : List UInt8) (most : Int) (h : (a.length : Int) ≤ most) (hm : a.length ≤ 100000000) : takeT (putT a ++ r) most = (a, r, 0) := by
  unfold takeT putT
  have e : clampN (a.length : Int) = a.length := by unfold clampN; omega
  rw [List.append_assoc, takeN_put _ _ (clampN_le _), e]
  simp only
  rw [if_neg (by omega), if_neg (by rw [List.length_append]; omega), List.take_left, List.drop_left]
/-- In order, no two of one path. -/
def Strict (l : List Fl) : Prop := l.Pairwise fun x y => ltF x y
theorem strict_srt {l : List Fl} (h : Strict l) : Srt l := h.imp fun hxy => ltF_asymm hxy
theorem strict_snoc {l : List Fl} {x : Fl} (h : Strict l) (hx : ¬ ∃ y, l.getLast? = some y ∧ ¬ ltF y x) : Strict (l ++ [x]) := by
  refine List.pairwise_append.2 ⟨h, List.pairwise_singleton _ _, fun a ha b hb => ?_⟩
  simp at hb
  subst hb
  rcases List.eq_nil_or_concat l with rfl | ⟨A, z, e⟩
  · cases ha
  · rw [List.concat_eq_append] at e
    subst e
    have hz : ltF z b := Classical.byContradiction fun hn => hx ⟨z, by simp, hn⟩
    rcases List.mem_append.1 ha with h1 | h1
    · exact ltF_trans ((List.pairwise_append.1 h).2.2 a h1 z (by simp)) hz
    · simp at h1; subst h1; exact hz
theorem tkF_only : ∀ (n : Nat) (s : List UInt8) (acc : List Fl), Strict acc → (tkF n s acc).1 = 0 → ∃ l, (tkF n s acc).2.1 = acc ++ l ∧ l.length = n ∧ Strict (acc ++ l) ∧ s = putL l ++ (tkF n s acc).2.2
  | 0, s, acc, h, _ => ⟨[], by simp [tkF], rfl, by simpa using h, by simp [tkF, putL]⟩
  | n + 1, s, acc, h, h0 => by
    rw [tkF] at h0 ⊢
    by_cases h1 : (takeT s 4096).2.2 ≠ 0
    · rw [if_pos h1] at h0; exact absurd h0 h1
    · rw [if_neg h1] at h0 ⊢
      by_cases h2 : (takeT (takeT s 4096).2.1 1048576).2.2 ≠ 0
      · rw [if_pos h2] at h0; exact absurd h0 h2
      · rw [if_neg h2] at h0 ⊢
        by_cases h3 : okP (ofL (takeT s 4096).1) ≠ 0
        · rw [if_pos h3] at h0; exact absurd h0 (by decide)
        · rw [if_neg h3] at h0 ⊢
          by_cases h4 : ∃ y, acc.getLast? = some y ∧ ¬ ltF y (ofL (takeT s 4096).1, ofL (takeT (takeT s 4096).2.1 1048576).1)
          · rw [if_pos h4] at h0; exact absurd h0 (by decide)
          · rw [if_neg h4] at h0 ⊢
            obtain ⟨l, e1, e2, e3, e4⟩ := tkF_only n _ _ (strict_snoc h h4) h0
            refine ⟨(ofL (takeT s 4096).1, ofL (takeT (takeT s 4096).2.1 1048576).1) :: l, by rw [e1]; simp, by simp [e2], by simpa using e3, ?_⟩
            have p1 := takeT_put (Decidable.not_not.1 h1)
            have p2 := takeT_put (Decidable.not_not.1 h2)
            have e5 : putL ((ofL (takeT s 4096).1, ofL (takeT (takeT s 4096).2.1 1048576).1) :: l) = putT (takeT s 4096).1 ++ putT (takeT (takeT s 4096).2.1 1048576).1 ++ putL l := by
              unfold putL
              rw [List.flatMap_cons, toList_ofL, toList_ofL]
            rw [e5, List.append_assoc, List.append_assoc, ← e4, ← p2, ← p1]
theorem tkF_put : ∀ (l : List Fl) (acc : List Fl) (r : List UInt8), Strict (acc ++ l) → (∀ x ∈ l, okP x.1 = 0 ∧ ¬ 1048576 < x.2.size) → tkF l.length (putL l ++ r) acc = (0, acc ++ l, r)
  | [], acc, r, _, _ => by simp [tkF, putL]
  | x :: l, acc, r, h, hx => by
    obtain ⟨k1, k2⟩ := hx x (by simp)
    have hp : x.1.toList.length ≤ 4096 := by
      unfold okP at k1
      split at k1
      · rename_i h1
        unfold pathOk at h1
        exact (of_decide_eq_true h1).2.1
      · cases k1
    have hd : x.2.toList.length ≤ 1048576 := by rw [size_toList]; omega
    have e1 : putL (x :: l) ++ r = putT x.1.toList ++ (putT x.2.toList ++ (putL l ++ r)) := by unfold putL; rw [List.flatMap_cons]; simp only [List.append_assoc]
    rw [List.length_cons, tkF, e1, takeT_of _ _ 4096 (by omega) (by omega)]
    simp only
    rw [takeT_of _ _ 1048576 (by omega) (by omega)]
    simp only [ofL_toList]
    rw [if_neg (by simp), if_neg (by simp), if_neg (by rw [k1]; simp)]
    have h4 : ¬ ∃ y, acc.getLast? = some y ∧ ¬ ltF y (x.1, x.2) := by
      rintro ⟨y, hy, hlt⟩
      have hy2 : y ∈ acc := List.mem_of_getLast? hy
      exact hlt ((List.pairwise_append.1 h).2.2 y hy2 x (by simp))
    rw [if_neg h4, tkF_put l _ r (by simpa using h) (fun z hz => hx z (by simp [hz]))]
    simp
theorem insF_perm (x : Fl) (l : List Fl) : (insF x l).Perm (x :: l) := by
  obtain ⟨A, B, rfl, e2, _⟩ := insF_split x l
  rw [e2]
  exact List.perm_middle
theorem sortF_perm (l : List Fl) : (sortF l).Perm l := by
  induction l using list_snoc_ind with
  | h0 => exact List.Perm.refl _
  | h1 l x ih =>
    rw [sortF_snoc]
    exact (insF_perm _ _).trans ((List.Perm.cons x ih).trans (List.perm_append_singleton x l).symm)
theorem sort_strict {l : List Fl} (h : checkF l = 0) : Strict (sortF l) := by
  have h1 := (check_ok _).1 ((check_perm (sortF_perm l)).2 h)
  refine List.Pairwise.imp₂ ?_ (sortF_law l).1 h1.2.2
  intro x y h2 h3
  exact Classical.byContradiction fun h4 => two_ne h3 (ltF_eq h4 h2)
/-- What is put is taken, in order. -/
theorem take_back {l : List Fl} (h : checkF l = 0) : takeFl (putF l) = (0, sortF l) := by
  have hs := (check_perm (sortF_perm l)).2 h
  have h1 := (check_ok _).1 hs
  have hl := (check_ok _).1 h
  unfold takeFl putF
  have e : clampN (l.length : Int) = l.length := by unfold clampN; omega
  rw [takeN_put _ _ (clampN_le _), e]
  simp only
  have e2 := tkF_put (sortF l) [] [] (by simpa using sort_strict h) h1.2.1
  rw [List.append_nil, (sortF_law l).2.2, List.nil_append] at e2
  rw [if_neg (by omega), e2]
  unfold fin
  rw [if_neg (by simp), if_neg (by simp), if_neg (by simp only; rw [hs]; simp)]
theorem take_cases (s : List UInt8) : ((takeFl s).1 ≠ 0 ∧ (takeFl s).2 = []) ∨ ((takeFl s).1 = 0 ∧ checkF (takeFl s).2 = 0 ∧ putF (takeFl s).2 = s) := by
  unfold takeFl
  cases hn : takeN s with
  | none => left; simp
  | some x =>
    obtain ⟨n, r⟩ := x
    simp only
    by_cases h1 : 64 < n
    · rw [if_pos h1]; left; simp
    · rw [if_neg h1]
      unfold fin
      by_cases h2 : (tkF n r []).1 ≠ 0
      · rw [if_pos h2]; left; exact ⟨h2, rfl⟩
      · rw [if_neg h2]
        by_cases h3 : (tkF n r []).2.2 ≠ []
        · rw [if_pos h3]; left; simp
        · rw [if_neg h3]
          by_cases h4 : checkF (tkF n r []).2.1 ≠ 0
          · rw [if_pos h4]; left; exact ⟨h4, rfl⟩
          · rw [if_neg h4]
            right
            refine ⟨rfl, Decidable.not_not.1 h4, ?_⟩
            obtain ⟨l, e1, e2, e3, e4⟩ := tkF_only n r [] List.Pairwise.nil (Decidable.not_not.1 h2)
            rw [List.nil_append] at e1 e3
            rw [Decidable.not_not.1 h3, List.append_nil] at e4
            rw [e1]
            unfold putF
            rw [← sortF_unique (strict_srt e3) (Stab.rfl' l), e2, ← e4]
            have e : clampN (n : Int) = n := by unfold clampN; omega
            rw [e]
            exact (takeN_some s n r hn).1.symm
end Go.Proofs.Ytbgnbkomckbckaa
