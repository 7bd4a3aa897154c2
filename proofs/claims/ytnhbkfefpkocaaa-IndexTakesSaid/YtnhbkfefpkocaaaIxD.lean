/-
  The plain index: a file put into it, an archive's files. No function in sight.
-/
import Derived.Test.YtnhbkfefpkocaaaP5
import Derived.Test.YtnhbkfefpkocaaaP6
import Derived.Test.YtnhbkfefpkocaaaP2
namespace Go.Proofs.Ytnhbkfefpkocaaa
open Go.RowKit

theorem lt_tr {a b c : List UInt8} (h : a < b) (h2 : b < c) : a < c := List.lt_trans h h2
theorem lt_irr (a : List UInt8) : ¬ a < a := List.lt_irrefl _
theorem nlt_lt {a b : List UInt8} (h : ¬ b < a) (hne : a ≠ b) : a < b := by
  have := List.not_lt.1 h
  rcases Classical.em (a < b) with h1 | h1
  · exact h1
  · exact absurd (List.le_antisymm this (List.not_lt.1 h1)) hne
theorem srtI_app {a b : List It} : SrtI (a ++ b) ↔ SrtI a ∧ SrtI b ∧ ∀ x ∈ a, ∀ y ∈ b, x.p.toList < y.p.toList := List.pairwise_append
theorem srtI_cons {x : It} {b : List It} : SrtI (x :: b) ↔ (∀ y ∈ b, x.p.toList < y.p.toList) ∧ SrtI b := List.pairwise_cons
theorem tw_mem {α : Type} (q : α → Bool) : ∀ (l : List α) (a : α), a ∈ l.takeWhile q → q a = true
  | [], a, h => by simp at h
  | x :: l, a, h => by
    rw [List.takeWhile_cons] at h
    split at h
    · rename_i hx
      rcases List.mem_cons.1 h with rfl | h
      · exact hx
      · exact tw_mem q l a h
    · cases h
theorem pos_split (p : ByteArray) (L : List It) (hS : SrtI L) : ∃ A B, L = A ++ B ∧ A.length = posI p L ∧ (∀ a ∈ A, a.p.toList < p.toList) ∧
    ((foundI p L = true ∧ ∃ y B', B = y :: B' ∧ y.p = p ∧ ∀ b ∈ B', p.toList < b.p.toList) ∨ (foundI p L = false ∧ ∀ b ∈ B, p.toList < b.p.toList)) := by
  obtain ⟨A, hA⟩ : ∃ A, L.takeWhile (fun x => decide (x.p.toList < p.toList)) = A := ⟨_, rfl⟩
  obtain ⟨B, hB⟩ : ∃ B, L.dropWhile (fun x => decide (x.p.toList < p.toList)) = B := ⟨_, rfl⟩
  have hL : L = A ++ B := by rw [← hA, ← hB]; exact List.takeWhile_append_dropWhile.symm
  have hp : A.length = posI p L := by rw [← hA]; rfl
  refine ⟨A, B, hL, hp, fun a ha => ?_, ?_⟩
  · rw [← hA] at ha
    simpa using tw_mem _ _ _ ha
  · cases B with
    | nil =>
      right
      refine ⟨?_, fun b hb => by cases hb⟩
      unfold foundI
      rw [← hp, hL, List.append_nil, List.getElem?_eq_none (Nat.le_refl _)]
      simp
    | cons y B' =>
      have hy : ¬ y.p.toList < p.toList := by
        have := List.head?_dropWhile_not (fun x : It => decide (x.p.toList < p.toList)) L
        rw [hB] at this
        simpa using this
      have hget : L[posI p L]? = some y := by rw [← hp, hL, List.getElem?_append_right (Nat.le_refl _), Nat.sub_self]; rfl
      have hS2 : SrtI (y :: B') := by rw [hL] at hS; exact (srtI_app.1 hS).2.1
      by_cases he : y.p = p
      · left
        refine ⟨?_, y, B', rfl, he, fun b hb => ?_⟩
        · unfold foundI
          rw [hget]
          simp [he]
        · rw [← he]; exact (srtI_cons.1 hS2).1 b hb
      · right
        have hlt : p.toList < y.p.toList := nlt_lt hy fun e => he (str_eq e.symm)
        refine ⟨?_, fun b hb => ?_⟩
        · unfold foundI
          rw [hget]
          simp [he]
        · rcases List.mem_cons.1 hb with rfl | hb
          · exact hlt
          · exact lt_tr hlt ((srtI_cons.1 hS2).1 b hb)

/-- A file put into an index. -/
def putI (L : List It) (x : It) : List It := if foundI x.p L = true then (match L[posI x.p L]? with | some y => if y.id ≤ x.id then L.set (posI x.p L) x else L | none => L) else L.take (posI x.p L) ++ x :: L.drop (posI x.p L)
theorem putI_split (x : It) (L : List It) (hS : SrtI L) : ∃ A B, L = A ++ B ∧ A.length = posI x.p L ∧ (∀ a ∈ A, a.p.toList < x.p.toList) ∧
    ((foundI x.p L = true ∧ ∃ y B', B = y :: B' ∧ y.p = x.p ∧ (∀ b ∈ B', x.p.toList < b.p.toList) ∧ L[posI x.p L]? = some y ∧ L.set (posI x.p L) x = A ++ x :: B' ∧ putI L x = A ++ (if y.id ≤ x.id then x else y) :: B') ∨
     (foundI x.p L = false ∧ (∀ b ∈ B, x.p.toList < b.p.toList) ∧ putI L x = A ++ x :: B)) := by
  obtain ⟨A, B, hL, hp, hA, h⟩ := pos_split x.p L hS
  refine ⟨A, B, hL, hp, hA, ?_⟩
  rcases h with ⟨hf, y, B', rfl, hy, hB⟩ | ⟨hf, hB⟩
  · left
    have hget : L[posI x.p L]? = some y := by rw [← hp, hL, List.getElem?_append_right (Nat.le_refl _), Nat.sub_self]; rfl
    have hset : L.set (posI x.p L) x = A ++ x :: B' := by rw [← hp]; conv => lhs; rw [hL]
                                                          rw [List.set_append_right _ _ (Nat.le_refl _), Nat.sub_self]; rfl
    refine ⟨hf, y, B', rfl, hy, hB, hget, hset, ?_⟩
    unfold putI
    rw [if_pos hf, hget]
    simp only
    split
    · exact hset
    · exact hL
  · right
    refine ⟨hf, hB, ?_⟩
    unfold putI
    rw [if_neg (by rw [hf]; simp), ← hp]
    conv => lhs; rw [hL]
    rw [List.take_left, List.drop_left]
theorem putI_srt (x : It) (L : List It) (hS : SrtI L) : SrtI (putI L x) := by
  obtain ⟨A, B, hL, hp, hA, h⟩ := putI_split x L hS
  have hS2 := hS
  rw [hL] at hS2
  obtain ⟨s1, s2, s3⟩ := srtI_app.1 hS2
  rcases h with ⟨_, y, B', rfl, hy, hB, _, _, hput⟩ | ⟨_, hB, hput⟩
  · rw [hput]
    have hz : (if y.id ≤ x.id then x else y).p = x.p := by split <;> simp [hy]
    refine srtI_app.2 ⟨s1, srtI_cons.2 ⟨fun b hb => by rw [hz]; exact hB b hb, (srtI_cons.1 s2).2⟩, fun a ha b hb => ?_⟩
    rcases List.mem_cons.1 hb with rfl | hb
    · rw [hz]; exact hA a ha
    · exact s3 a ha b (List.mem_cons_of_mem _ hb)
  · rw [hput]
    refine srtI_app.2 ⟨s1, srtI_cons.2 ⟨hB, s2⟩, fun a ha b hb => ?_⟩
    rcases List.mem_cons.1 hb with rfl | hb
    · exact hA a ha
    · exact s3 a ha b hb
theorem putI_len (x : It) (L : List It) (hS : SrtI L) : (putI L x).length ≤ L.length + 1 := by
  obtain ⟨A, B, hL, hp, hA, h⟩ := putI_split x L hS
  rcases h with ⟨_, y, B', rfl, _, _, _, _, hput⟩ | ⟨_, _, hput⟩
  · rw [hput, hL]; simp
  · rw [hput, hL]; simp; omega
/-- An archive's file as an item. -/
def itOf (id : Int) (f : Fl) : It := ⟨f.1, id, (f.2.size : Nat), ofL (shaW f.2.toList)⟩
/-- An archive's files, and the error. -/
def withL (id : Int) : List Fl → List It → List It × Int
  | [], L => if 512 < L.length then ([], 3) else (L, 0)
  | f :: fs, L => if okP f.1 = 0 then withL id fs (putI L (itOf id f)) else ([], okP f.1)
def withI (L : List It) (id : Int) (fs : List Fl) : List It × Int := if id < 1 ∨ 4294967295 < id then ([], 1) else withL id fs L
end Go.Proofs.Ytnhbkfefpkocaaa
