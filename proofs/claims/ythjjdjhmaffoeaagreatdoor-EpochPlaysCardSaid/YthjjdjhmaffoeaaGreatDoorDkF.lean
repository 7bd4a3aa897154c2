/-
  The code's disk: a sector written in the map.
-/
import Derived.Test.YthjjdjhmaffoeaaGreatDoorDkE
namespace Go.Proofs.YthjjdjhmaffoeaaGreatDoor
open Go.RowKit Go.Maps

theorem ownsMap_fits {P : Program} {k : TypeId} {R : Value → Option (DataW Unit × List MemPlace)} {w : World} {b q n : Nat} {D : DataW Unit} (h : w.ownsMap P k R b q D) (hs : Maps.size D ≤ n) : w.ownsMap P k R b n D := by
  obtain ⟨es, clock, hb, F, _, hD⟩ := h
  refine ⟨es, clock, hb, F, ?_, hD⟩
  rw [hD, Maps.size_eq, length_read] at hs
  exact hs
theorem count_set_true : ∀ (l : List Bool) (i : Nat), i < l.length → (l.set i true).countP id = if l.getD i false then l.countP id else l.countP id + 1
  | [], i, h => by simp at h
  | b :: l, 0, _ => by cases b <;> simp
  | b :: l, i + 1, h => by
    have ih := count_set_true l i (by simpa using h)
    simp only [List.set_cons_succ, List.countP_cons, List.getD_cons_succ]
    rw [ih]
    split <;> omega
theorem count_le (l : List Bool) : l.countP id ≤ l.length := List.countP_le_length
/-- A sector is written. -/
theorem DiskAt.put {w w' : World} {b g m n q : Nat} {S : St} {D : DataW Unit} (h : DiskAt w b g m S n) (hown : w.ownsMap Tryz.prog 3 (plainElem Tryz.prog 9) m n D)
    (hD : MapSt D S) (hk : ∀ k, Maps.has D k = true → ∃ i : Nat, i < n ∧ k = .int .i64 i) (hsz : Maps.size D = S.fresh.countP id)
    {i : Nat} (hi : i < n) (t : ByteArray) (ht : t.size = 256) (hg : w.grownBy w' (some m)) (hw : w'.ownsMap Tryz.prog 3 (plainElem Tryz.prog 9) m q (D.put (.int .i64 i) (.lit (.string t.data.toList)))) :
    DiskAt w' b g m { S with lst := S.lst.set i t, fresh := S.fresh.set i true } n := by
  have hne := h.map_ne
  obtain ⟨cur, c, D0, hB, hG, hcur, hc, hM0, hD0, hk0, hsz0, hbg, hok, hn1, hn2, hf⟩ := h
  have hmg : m ≠ g := by
    obtain ⟨es, clock, hm, _⟩ := hown
    intro e
    subst e
    unfold Bk at hG
    rw [hm] at hG
    cases hG
  have hT := hown.tidy law_int
  have hIs := hT.isMap
  have hkl : WideAt.IsKeyLit (.int .i64 (i : Int)) := trivial
  have hil : i < S.fresh.length := by rw [hok.lf]; exact hi
  have hhas : Maps.has D (.int .i64 (i : Int)) = S.fresh.getD i false := (hD i (by rw [hok.ll]; exact hi)).1
  have hsz2 : Maps.size (D.put (.int .i64 (i : Int)) (.lit (.string t.data.toList))) = (S.fresh.set i true).countP id := by
    rw [size_put hT, hhas, count_set_true _ _ hil, hsz]
  refine ⟨cur, c, _, hB.only hg (fun e => hne e.symm), hG.only hg (fun e => hmg e.symm), hcur, hc, ownsMap_fits hw ?_, ?_, ?_, hsz2, hbg, ?_, hn1, hn2, hf⟩
  · rw [hsz2]
    have := count_le (S.fresh.set i true)
    simp [hok.lf] at this
    exact this
  · intro j hj
    simp only [List.length_set] at hj
    by_cases hji : i = j
    · subst hji
      refine ⟨?_, fun z _ => ?_⟩
      · rw [has_put_same hIs hkl]
        simp only [List.getD_eq_getElem?_getD]
        rw [List.getElem?_set_self hil]
        rfl
      · rw [atKey_put_same hIs hkl]
        simp only [List.getD_eq_getElem?_getD]
        rw [List.getElem?_set_self hj]
        rfl
    · have hne2 : (Lit.int .i64 (j : Int)) ≠ .int .i64 (i : Int) := by intro e; cases e; exact hji rfl
      obtain ⟨h1, h2⟩ := hD j hj
      refine ⟨?_, fun z hz => ?_⟩
      · rw [has_put_other hne2, h1]
        simp only [List.getD_eq_getElem?_getD]
        rw [List.getElem?_set_ne hji]
      · rw [atKey_put_other hne2]
        simp only at hz
        rw [List.getElem?_set_ne hji] at hz
        rw [h2 z hz]
        simp only [List.getD_eq_getElem?_getD]
        rw [List.getElem?_set_ne hji]
  · intro k hk2
    by_cases hke : k = .int .i64 (i : Int)
    · exact ⟨i, hi, hke⟩
    · rw [has_put_other hke] at hk2
      exact hk k hk2
  · refine ⟨hok.lo, by simp [hok.ll], by simp [hok.lf], fun j hj => ?_, hok.zo, fun x hx => ?_, hok.fuse⟩
    · simp only at hj ⊢
      by_cases hji : i = j
      · subst hji
        rw [List.getElem?_set_self hil] at hj
        cases hj
      · rw [List.getElem?_set_ne hji] at hj
        rw [List.getElem?_set_ne hji]
        exact hok.same j hj
    · simp only at hx
      rcases List.mem_or_eq_of_mem_set hx with hx | hx
      · exact hok.zl x hx
      · rw [hx]; exact ht
end Go.Proofs.YthjjdjhmaffoeaaGreatDoor
