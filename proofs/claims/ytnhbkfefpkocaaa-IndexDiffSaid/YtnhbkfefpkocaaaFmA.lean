/-
  Files in a row: the cells, the exchange of two; slices.swapRangeCmpFunc.
-/
import Derived.Test.YtnhbkfefpkocaaaPathG
import Derived.Test.YtnhbkfefpkocaaaTake
import Derived.Lib.SliceRun
namespace Go.Proofs.Ytnhbkfefpkocaaa
open Go.RowKit

abbrev Fl := ByteArray × ByteArray
/-- The cells of files. -/
def fl : List Fl → List Value
  | [] => []
  | x :: l => .string x.1 :: .string x.2 :: fl l
theorem fl_len (l : List Fl) : (fl l).length = l.length * 2 := by
  induction l with
  | nil => rfl
  | cons x l ih => simp only [fl, List.length_cons, ih]; omega
theorem fl_app (a b : List Fl) : fl (a ++ b) = fl a ++ fl b := by
  induction a with
  | nil => rfl
  | cons x a ih => simp only [List.cons_append, fl, ih]
theorem fl_one (l : List Fl) : ∀ u ∈ fl l, u.oneCell' = true := by
  induction l with
  | nil => intro u hu; cases hu
  | cons x l ih =>
    intro u hu
    simp only [fl, List.mem_cons] at hu
    rcases hu with rfl | rfl | hu
    · rfl
    · rfl
    · exact ih u hu
theorem fl_get0 (l : List Fl) (i : Nat) : (fl l)[i * 2]? = l[i]?.map fun x => Value.string x.1 := by
  induction l generalizing i with
  | nil => simp [fl]
  | cons x l ih =>
    cases i with
    | zero => rfl
    | succ i => rw [show (i + 1) * 2 = i * 2 + 1 + 1 by omega]; simp only [fl, List.getElem?_cons_succ]; exact ih i
theorem fl_get1 (l : List Fl) (i : Nat) : (fl l)[i * 2 + 1]? = l[i]?.map fun x => Value.string x.2 := by
  induction l generalizing i with
  | nil => simp [fl]
  | cons x l ih =>
    cases i with
    | zero => rfl
    | succ i => rw [show (i + 1) * 2 + 1 = i * 2 + 1 + 1 + 1 by omega]; simp only [fl, List.getElem?_cons_succ]; exact ih i
theorem fl_set (l : List Fl) (i : Nat) (x : Fl) : fl (l.set i x) = ((fl l).set (i * 2) (.string x.1)).set (i * 2 + 1) (.string x.2) := by
  induction l generalizing i with
  | nil => simp [fl]
  | cons y l ih =>
    cases i with
    | zero => rfl
    | succ i =>
      rw [show (i + 1) * 2 = i * 2 + 1 + 1 by omega, show i * 2 + 1 + 1 + 1 = (i * 2 + 1) + 1 + 1 by omega]
      simp only [List.set_cons_succ, fl, ih]

/-- A block's first cells are those of files. -/
def FRow (w : World) (g : Nat) (l : List Fl) : Prop := ∃ cur : Array Value, Bk w g 73 cur ∧ cur.toList.take (l.length * 2) = fl l
theorem FRow.lt {w : World} {g : Nat} {l : List Fl} (h : FRow w g l) : g < w.heap.size := by obtain ⟨_, h, _⟩ := h; exact h.lt
theorem FRow.below' {w w' : World} {g : Nat} {l : List Fl} (h : FRow w g l) (hb : Below w.heap.size w w') : FRow w' g l := by
  obtain ⟨cur, h1, h2⟩ := h
  exact ⟨cur, h1.below' hb, h2⟩
theorem FRow.drew {w : World} {g : Nat} {l : List Fl} (h : FRow w g l) : FRow w.drew g l := h
theorem FRow.cell {w : World} {g : Nat} {l : List Fl} (h : FRow w g l) {i : Nat} {x : Fl} (hx : l[i]? = some x) : w.cell? ⟨g, i * 2, none⟩ = some (.string x.1) ∧ w.cell? ⟨g, i * 2 + 1, none⟩ = some (.string x.2) := by
  obtain ⟨cur, h1, h2⟩ := h
  have hi : i < l.length := (List.getElem?_eq_some_iff.1 hx).1
  have a0 := fl_get0 l i
  have a1 := fl_get1 l i
  rw [← h2, List.getElem?_take, if_pos (by omega), hx, Array.getElem?_toList] at a0 a1
  exact ⟨(h1.cell _).trans a0, (h1.cell _).trans a1⟩
theorem FRow.free {w : World} {g : Nat} {l : List Fl} (h : FRow w g l) (i : Nat) : w.frozen? ⟨g, i, none⟩ = false := by
  obtain ⟨cur, h1, _⟩ := h
  exact h1.frozen i
theorem FRow.put {w : World} {g : Nat} {l : List Fl} (h : FRow w g l) (i : Nat) (x : Fl) : FRow ((w.setCell ⟨g, i * 2, none⟩ (.string x.1)).setCell ⟨g, i * 2 + 1, none⟩ (.string x.2)) g (l.set i x) := by
  obtain ⟨cur, h1, h2⟩ := h
  refine ⟨_, (h1.set_ (i * 2) (.string x.1)).set_ (i * 2 + 1) (.string x.2), ?_⟩
  rw [fl_set, ← h2, List.length_set]
  simp only [Array.toList_setIfInBounds]
  rw [List.take_set, List.take_set]

/-- Two files exchanged. -/
def sw (l : List Fl) (i j : Nat) : List Fl := (l.set i (l.getD j default)).set j (l.getD i default)
theorem sw_len (l : List Fl) (i j : Nat) : (sw l i j).length = l.length := by simp [sw]
theorem getD_some {l : List Fl} {i : Nat} (h : i < l.length) : l[i]? = some (l.getD i default) := by
  rw [List.getD_eq_getElem?_getD, List.getElem?_eq_getElem h]; rfl
theorem FRow.swp {w : World} {g : Nat} {l : List Fl} (h : FRow w g l) (i j : Nat) {x y : Fl} (hi : l[i]? = some x) (hj : l[j]? = some y) :
    FRow ((((w.setCell ⟨g, i * 2, none⟩ (.string y.1)).setCell ⟨g, i * 2 + 1, none⟩ (.string y.2)).setCell ⟨g, j * 2, none⟩ (.string x.1)).setCell ⟨g, j * 2 + 1, none⟩ (.string x.2)) g (sw l i j) := by
  have e : sw l i j = (l.set i y).set j x := by
    unfold sw
    rw [List.getD_eq_getElem?_getD, List.getD_eq_getElem?_getD, hi, hj]
    rfl
  rw [e]
  exact (h.put i y).put j x
theorem sw_app (A B C : List Fl) (x y : Fl) (i j : Nat) (hi : i = A.length) (hj : j = A.length + 1 + B.length) : sw (A ++ x :: (B ++ y :: C)) i j = A ++ y :: (B ++ x :: C) := by
  subst hi
  subst hj
  have e1 : (A ++ x :: (B ++ y :: C)).getD (A.length + 1 + B.length) default = y := by
    rw [List.getD_eq_getElem?_getD, List.getElem?_append_right (by omega), show A.length + 1 + B.length - A.length = B.length + 1 by omega, List.getElem?_cons_succ, List.getElem?_append_right (Nat.le_refl _), Nat.sub_self]
    rfl
  have e2 : (A ++ x :: (B ++ y :: C)).getD A.length default = x := by
    rw [List.getD_eq_getElem?_getD, List.getElem?_append_right (Nat.le_refl _), Nat.sub_self]
    rfl
  unfold sw
  rw [e1, e2, List.set_append_right _ _ (Nat.le_refl _), Nat.sub_self, List.set_cons_zero, List.set_append_right _ _ (by omega), show A.length + 1 + B.length - A.length = B.length + 1 by omega, List.set_cons_succ, List.set_append_right _ _ (Nat.le_refl _), Nat.sub_self, List.set_cons_zero]
theorem sw_self (l : List Fl) (i : Nat) : sw l i i = l := by
  unfold sw
  rw [List.set_set]
  by_cases h : i < l.length
  · rw [List.getD_eq_getElem?_getD, List.getElem?_eq_getElem h]
    exact List.set_getElem_self h
  · rw [List.set_eq_of_length_le (by omega)]
/-- The first n exchanges of two ranges. -/
def swN (l : List Fl) (a b : Nat) : Nat → List Fl
  | 0 => l
  | n + 1 => sw (swN l a b n) (a + n) (b + n)
theorem swN_len (l : List Fl) (a b n : Nat) : (swN l a b n).length = l.length := by
  induction n with
  | zero => rfl
  | succ n ih => rw [swN, sw_len, ih]
theorem swN_app (P M S : List Fl) (U V : List Fl) (h : U.length = V.length) (n : Nat) (hn : n ≤ U.length) :
    swN (P ++ (U ++ (M ++ (V ++ S)))) P.length (P.length + U.length + M.length) n = P ++ ((V.take n ++ U.drop n) ++ (M ++ ((U.take n ++ V.drop n) ++ S))) := by
  induction n with
  | zero => simp [swN]
  | succ n ih =>
    rw [swN, ih (by omega)]
    have hu : n < U.length := by omega
    have hv : n < V.length := by omega
    have d1 : U.drop n = U[n] :: U.drop (n + 1) := List.drop_eq_getElem_cons hu
    have d2 : V.drop n = V[n] :: V.drop (n + 1) := List.drop_eq_getElem_cons hv
    have t1 : U.take (n + 1) = U.take n ++ [U[n]] := by rw [List.take_add_one, List.getElem?_eq_getElem hu]; rfl
    have t2 : V.take (n + 1) = V.take n ++ [V[n]] := by rw [List.take_add_one, List.getElem?_eq_getElem hv]; rfl
    have e := sw_app (P ++ V.take n) (U.drop (n + 1) ++ (M ++ U.take n)) (V.drop (n + 1) ++ S) U[n] V[n] (P.length + n) (P.length + U.length + M.length + n)
      (by rw [List.length_append, List.length_take]; omega) (by simp only [List.length_append, List.length_take, List.length_drop]; omega)
    rw [d1, d2, t1, t2]
    simp only [List.append_assoc, List.cons_append, List.nil_append] at e ⊢
    exact e
theorem swN_all (P M S U V : List Fl) (h : U.length = V.length) (a b n : Nat) (ha : a = P.length) (hb : b = P.length + U.length + M.length) (hn : n = U.length) :
    swN (P ++ (U ++ (M ++ (V ++ S)))) a b n = P ++ (V ++ (M ++ (U ++ S))) := by
  subst ha
  subst hb
  subst hn
  rw [swN_app P M S U V h _ (Nat.le_refl _), List.drop_length, List.take_length, List.take_of_length_le (by omega), List.drop_eq_nil_of_le (by omega), List.append_nil, List.append_nil]
end Go.Proofs.Ytnhbkfefpkocaaa
