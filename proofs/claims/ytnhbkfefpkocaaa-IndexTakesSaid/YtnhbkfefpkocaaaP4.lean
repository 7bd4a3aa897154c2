/-
  Files in a row: the cells, the exchange of two; slices.swapRangeCmpFunc. The order of files by their paths; sorted, and stable. No function in sight.
-/
import Derived.Test.YtnhbkfefpkocaaaP3
import Derived.Test.YtnhbkfefpkocaaaTake
import Derived.Lib.SliceRun
namespace Go.Proofs.Ytnhbkfefpkocaaa
open Go.RowKit

abbrev Fl := ByteArray × ByteArray
/-- The cells of files. -/
def fl : List Fl → List Value
  | [] => []
  | x :: l => .string x.1 :: .string x.2 :: fl l
theorem fl_len (l : List Fl) : (fl l).length = l.length * 2 := by
  induction l with
  | nil => rfl
  | cons x l ih => simp only [fl, List.length_cons, ih]; omega
theorem fl_app (a b : List Fl) : fl (a ++ b) = fl a ++ fl b := by
  induction a with
  | nil => rfl
  | cons x a ih => simp only [List.cons_append, fl, ih]
theorem fl_one (l : List Fl) : ∀ u ∈ fl l, u.oneCell' = true := by
  induction l with
  | nil => intro u hu; cases hu
  | cons x l ih =>
    intro u hu
    simp only [fl, List.mem_cons] at hu
    rcases hu with rfl | rfl | hu
    · rfl
    · rfl
    · exact ih u hu
theorem fl_get0 (l : List Fl) (i : Nat) : (fl l)[i * 2]? = l[i]?.map fun x => Value.string x.1 := by
  induction l generalizing i with
  | nil => simp [fl]
  | cons x l ih =>
    cases i with
    | zero => rfl
    | succ i => rw [show (i + 1) * 2 = i * 2 + 1 + 1 by omega]; simp only [fl, List.getElem?_cons_succ]; exact ih i
theorem fl_get1 (l : List Fl) (i : Nat) : (fl l)[i * 2 + 1]? = l[i]?.map fun x => Value.string x.2 := by
  induction l generalizing i with
  | nil => simp [fl]
  | cons x l ih =>
    cases i with
    | zero => rfl
    | succ i => rw [show (i + 1) * 2 + 1 = i * 2 + 1 + 1 + 1 by omega]; simp only [fl, List.getElem?_cons_succ]; exact ih i
theorem fl_set (l : List Fl) (i : Nat) (x : Fl) : fl (l.set i x) = ((fl l).set (i * 2) (.string x.1)).set (i * 2 + 1) (.string x.2) := by
  induction l generalizing i with
  | nil => simp [fl]
  | cons y l ih =>
    cases i with
    | zero => rfl
    | succ i =>
      rw [show (i + 1) * 2 = i * 2 + 1 + 1 by omega, show i * 2 + 1 + 1 + 1 = (i * 2 + 1) + 1 + 1 by omega]
      simp only [List.set_cons_succ, fl, ih]

/-- A block's first cells are those of files. -/
def FRow (w : World) (g : Nat) (l : List Fl) : Prop := ∃ cur : Array Value, Bk w g 73 cur ∧ cur.toList.take (l.length * 2) = fl l
theorem FRow.lt {w : World} {g : Nat} {l : List Fl} (h : FRow w g l) : g < w.heap.size := by obtain ⟨_, h, _⟩ := h; exact h.lt
theorem FRow.below' {w w' : World} {g : Nat} {l : List Fl} (h : FRow w g l) (hb : Below w.heap.size w w') : FRow w' g l := by
  obtain ⟨cur, h1, h2⟩ := h
  exact ⟨cur, h1.below' hb, h2⟩
theorem FRow.drew {w : World} {g : Nat} {l : List Fl} (h : FRow w g l) : FRow w.drew g l := h
theorem FRow.cell {w : World} {g : Nat} {l : List Fl} (h : FRow w g l) {i : Nat} {x : Fl} (hx : l[i]? = some x) : w.cell? ⟨g, i * 2, none⟩ = some (.string x.1) ∧ w.cell? ⟨g, i * 2 + 1, none⟩ = some (.string x.2) := by
  obtain ⟨cur, h1, h2⟩ := h
  have hi : i < l.length := (List.getElem?_eq_some_iff.1 hx).1
  have a0 := fl_get0 l i
  have a1 := fl_get1 l i
  rw [← h2, List.getElem?_take, if_pos (by omega), hx, Array.getElem?_toList] at a0 a1
  exact ⟨(h1.cell _).trans a0, (h1.cell _).trans a1⟩
theorem FRow.free {w : World} {g : Nat} {l : List Fl} (h : FRow w g l) (i : Nat) : w.frozen? ⟨g, i, none⟩ = false := by
  obtain ⟨cur, h1, _⟩ := h
  exact h1.frozen i
theorem FRow.put {w : World} {g : Nat} {l : List Fl} (h : FRow w g l) (i : Nat) (x : Fl) : FRow ((w.setCell ⟨g, i * 2, none⟩ (.string x.1)).setCell ⟨g, i * 2 + 1, none⟩ (.string x.2)) g (l.set i x) := by
  obtain ⟨cur, h1, h2⟩ := h
  refine ⟨_, (h1.set_ (i * 2) (.string x.1)).set_ (i * 2 + 1) (.string x.2), ?_⟩
  rw [fl_set, ← h2, List.length_set]
  simp only [Array.toList_setIfInBounds]
  rw [List.take_set, List.take_set]

/-- Two files exchanged. -/
def sw (l : List Fl) (i j : Nat) : List Fl := (l.set i (l.getD j default)).set j (l.getD i default)
theorem sw_len (l : List Fl) (i j : Nat) : (sw l i j).length = l.length := by simp [sw]
theorem getD_some {l : List Fl} {i : Nat} (h : i < l.length) : l[i]? = some (l.getD i default) := by
  rw [List.getD_eq_getElem?_getD, List.getElem?_eq_getElem h]; rfl
theorem FRow.swp {w : World} {g : Nat} {l : List Fl} (h : FRow w g l) (i j : Nat) {x y : Fl} (hi : l[i]? = some x) (hj : l[j]? = some y) :
    FRow ((((w.setCell ⟨g, i * 2, none⟩ (.string y.1)).setCell ⟨g, i * 2 + 1, none⟩ (.string y.2)).setCell ⟨g, j * 2, none⟩ (.string x.1)).setCell ⟨g, j * 2 + 1, none⟩ (.string x.2)) g (sw l i j) := by
  have e : sw l i j = (l.set i y).set j x := by
    unfold sw
    rw [List.getD_eq_getElem?_getD, List.getD_eq_getElem?_getD, hi, hj]
    rfl
  rw [e]
  exact (h.put i y).put j x
theorem sw_app (A B C : List Fl) (x y : Fl) (i j : Nat) (hi : i = A.length) (hj : j = A.length + 1 + B.length) : sw (A ++ x :: (B ++ y :: C)) i j = A ++ y :: (B ++ x :: C) := by
  subst hi
  subst hj
  have e1 : (A ++ x :: (B ++ y :: C)).getD (A.length + 1 + B.length) default = y := by
    rw [List.getD_eq_getElem?_getD, List.getElem?_append_right (by omega), show A.length + 1 + B.length - A.length = B.length + 1 by omega, List.getElem?_cons_succ, List.getElem?_append_right (Nat.le_refl _), Nat.sub_self]
    rfl
  have e2 : (A ++ x :: (B ++ y :: C)).getD A.length default = x := by
    rw [List.getD_eq_getElem?_getD, List.getElem?_append_right (Nat.le_refl _), Nat.sub_self]
    rfl
  unfold sw
  rw [e1, e2, List.set_append_right _ _ (Nat.le_refl _), Nat.sub_self, List.set_cons_zero, List.set_append_right _ _ (by omega), show A.length + 1 + B.length - A.length = B.length + 1 by omega, List.set_cons_succ, List.set_append_right _ _ (Nat.le_refl _), Nat.sub_self, List.set_cons_zero]
theorem sw_self (l : List Fl) (i : Nat) : sw l i i = l := by
  unfold sw
  rw [List.set_set]
  by_cases h : i < l.length
  · rw [List.getD_eq_getElem?_getD, List.getElem?_eq_getElem h]
    exact List.set_getElem_self h
  · rw [List.set_eq_of_length_le (by omega)]
/-- The first n exchanges of two ranges. -/
def swN (l : List Fl) (a b : Nat) : Nat → List Fl
  | 0 => l
  | n + 1 => sw (swN l a b n) (a + n) (b + n)
theorem swN_len (l : List Fl) (a b n : Nat) : (swN l a b n).length = l.length := by
  induction n with
  | zero => rfl
  | succ n ih => rw [swN, sw_len, ih]
theorem swN_app (P M S : List Fl) (U V : List Fl) (h : U.length = V.length) (n : Nat) (hn : n ≤ U.length) :
    swN (P ++ (U ++ (M ++ (V ++ S)))) P.length (P.length + U.length + M.length) n = P ++ ((V.take n ++ U.drop n) ++ (M ++ ((U.take n ++ V.drop n) ++ S))) := by
  induction n with
  | zero => simp [swN]
  | succ n ih =>
    rw [swN, ih (by omega)]
    have hu : n < U.length := by omega
    have hv : n < V.length := by omega
    have d1 : U.drop n = U[n] :: U.drop (n + 1) := List.drop_eq_getElem_cons hu
    have d2 : V.drop n = V[n] :: V.drop (n + 1) := List.drop_eq_getElem_cons hv
    have t1 : U.take (n + 1) = U.take n ++ [U[n]] := by rw [List.take_add_one, List.getElem?_eq_getElem hu]; rfl
    have t2 : V.take (n + 1) = V.take n ++ [V[n]] := by rw [List.take_add_one, List.getElem?_eq_getElem hv]; rfl
    have e := sw_app (P ++ V.take n) (U.drop (n + 1) ++ (M ++ U.take n)) (V.drop (n + 1) ++ S) U[n] V[n] (P.length + n) (P.length + U.length + M.length + n)
      (by rw [List.length_append, List.length_take]; omega) (by simp only [List.length_append, List.length_take, List.length_drop]; omega)
    rw [d1, d2, t1, t2]
    simp only [List.append_assoc, List.cons_append, List.nil_append] at e ⊢
    exact e
theorem swN_all (P M S U V : List Fl) (h : U.length = V.length) (a b n : Nat) (ha : a = P.length) (hb : b = P.length + U.length + M.length) (hn : n = U.length) :
    swN (P ++ (U ++ (M ++ (V ++ S)))) a b n = P ++ (V ++ (M ++ (U ++ S))) := by
  subst ha
  subst hb
  subst hn
  rw [swN_app P M S U V h _ (Nat.le_refl _), List.drop_length, List.take_length, List.take_of_length_le (by omega), List.drop_eq_nil_of_le (by omega), List.append_nil, List.append_nil]
end Go.Proofs.Ytnhbkfefpkocaaa
namespace Go.Proofs.Ytnhbkfefpkocaaa
open Go.RowKit
open Go.Lib (compareBytes)

theorem cb_lt : ∀ a b : List UInt8, compareBytes a b < 0 ↔ a < b
  | [], [] => by simp [compareBytes]
  | [], _ :: _ => by simp [compareBytes]
  | _ :: _, [] => by simp [compareBytes]
  | x :: a, y :: b => by
    rw [cb_cons, List.cons_lt_cons_iff]
    by_cases h : x < y
    · rw [if_pos h]; simp [h]
    · rw [if_neg h]
      by_cases h2 : y < x
      · rw [if_pos h2]
        have hne : x ≠ y := fun e => by subst e; exact h h2
        simp [h, hne]
      · rw [if_neg h2]
        have he : x = y := by
          have h1 : ¬ x.toNat < y.toNat := h
          have h3 : ¬ y.toNat < x.toNat := h2
          exact UInt8.toNat_inj.1 (by omega)
        subst he
        rw [cb_lt a b]
        simp [h]
/-- One file stands ahead of another. -/
def ltF (x y : Fl) : Prop := x.1.toList < y.1.toList
theorem ltF_cmp (x y : Fl) : cmpB x.1 y.1 < 0 ↔ ltF x y := cb_lt _ _
theorem ltF_irr (x : Fl) : ¬ ltF x x := List.lt_irrefl _
theorem ltF_trans {x y z : Fl} (h : ltF x y) (h2 : ltF y z) : ltF x z := List.lt_trans h h2
theorem ltF_eq {x y : Fl} (h : ¬ ltF x y) (h2 : ¬ ltF y x) : x.1 = y.1 := str_eq (List.le_antisymm (List.not_lt.1 h2) (List.not_lt.1 h))
theorem ltF_ne {x y : Fl} (h : ltF x y) : x.1 ≠ y.1 := fun e => by unfold ltF at h; rw [e] at h; exact List.lt_irrefl _ h
theorem leF_trans {x y z : Fl} (h : ¬ ltF y x) (h2 : ¬ ltF z y) : ¬ ltF z x := List.not_lt.2 (List.le_trans (List.not_lt.1 h) (List.not_lt.1 h2))
theorem ltF_le {x y z : Fl} (h : ltF x y) (h2 : ¬ ltF z y) : ltF x z := Classical.byContradiction fun h3 => h2 (List.lt_of_le_of_lt (List.not_lt.1 h3) h)
theorem leF_lt {x y z : Fl} (h : ¬ ltF y x) (h2 : ltF y z) : ltF x z := List.lt_of_le_of_lt (List.not_lt.1 h) h2
theorem ltF_asymm {x y : Fl} (h : ltF x y) : ¬ ltF y x := fun h2 => ltF_irr _ (ltF_trans h h2)

def Srt (l : List Fl) : Prop := l.Pairwise fun x y => ¬ ltF y x
theorem srt_app {a b : List Fl} : Srt (a ++ b) ↔ Srt a ∧ Srt b ∧ ∀ x ∈ a, ∀ y ∈ b, ¬ ltF y x := List.pairwise_append
theorem srt_one (x : Fl) : Srt [x] := List.pairwise_singleton _ _
/-- The files of each path stand in the same order. -/
def Stab (a b : List Fl) : Prop := ∀ p : ByteArray, a.filter (fun x => decide (x.1 = p)) = b.filter (fun x => decide (x.1 = p))
theorem Stab.rfl' (a : List Fl) : Stab a a := fun _ => rfl
theorem Stab.symm {a b : List Fl} (h : Stab a b) : Stab b a := fun p => (h p).symm
theorem Stab.trans {a b c : List Fl} (h : Stab a b) (h2 : Stab b c) : Stab a c := fun p => (h p).trans (h2 p)
theorem Stab.app {a b c d : List Fl} (h : Stab a b) (h2 : Stab c d) : Stab (a ++ c) (b ++ d) := fun p => by rw [List.filter_append, List.filter_append, h p, h2 p]
theorem Stab.mem {a b : List Fl} (h : Stab a b) {x : Fl} (hx : x ∈ b) : x ∈ a := by
  have h1 : x ∈ b.filter (fun y => decide (y.1 = x.1)) := List.mem_filter.2 ⟨hx, by simp⟩
  rw [← h x.1] at h1
  exact (List.mem_filter.1 h1).1
theorem Stab.comm {a b : List Fl} (h : ∀ x ∈ a, ∀ y ∈ b, x.1 ≠ y.1) : Stab (a ++ b) (b ++ a) := fun p => by
  rw [List.filter_append, List.filter_append]
  by_cases ha : ∃ x ∈ a, x.1 = p
  · obtain ⟨x, hx, rfl⟩ := ha
    have : b.filter (fun y => decide (y.1 = x.1)) = [] := List.filter_eq_nil_iff.2 fun y hy => by simpa using (h x hx y hy).symm
    rw [this]; simp
  · have : a.filter (fun y => decide (y.1 = p)) = [] := List.filter_eq_nil_iff.2 fun y hy => by simpa using fun e => ha ⟨y, hy, e⟩
    rw [this]; simp
theorem srt_unique : ∀ a b : List Fl, Srt a → Srt b → Stab a b → a = b
  | [], [], _, _, _ => rfl
  | [], y :: b, _, _, h => absurd (h.mem (List.mem_cons_self)) (by simp)
  | x :: a, [], _, _, h => absurd (h.symm.mem (List.mem_cons_self)) (by simp)
  | x :: a, y :: b, ha, hb, h => by
    have ha' := List.pairwise_cons.1 ha
    have hb' := List.pairwise_cons.1 hb
    have h1 : ¬ ltF y x := by
      have : y ∈ x :: a := h.mem List.mem_cons_self
      rcases List.mem_cons.1 this with rfl | h1
      · exact ltF_irr _
      · exact ha'.1 y h1
    have h2 : ¬ ltF x y := by
      have : x ∈ y :: b := h.symm.mem List.mem_cons_self
      rcases List.mem_cons.1 this with rfl | h1
      · exact ltF_irr _
      · exact hb'.1 x h1
    have hp : x.1 = y.1 := ltF_eq h2 h1
    have hx := h x.1
    rw [List.filter_cons, List.filter_cons, if_pos (by simp), if_pos (by simp [hp])] at hx
    have hxy : x = y := (List.cons.inj hx).1
    subst hxy
    have hs : Stab a b := fun p => by
      have hq := h p
      rw [List.filter_cons, List.filter_cons] at hq
      by_cases e : x.1 = p
      · rw [if_pos (by simpa using e), if_pos (by simpa using e)] at hq
        exact (List.cons.inj hq).2
      · rw [if_neg (by simpa using e), if_neg (by simpa using e)] at hq
        exact hq
    rw [srt_unique a b ha'.2 hb'.2 hs]

/-- A merge by halves. -/
theorem merge_law {X1 X2 Y1 Y2 Z1 Z2 : List Fl} (hX : Srt (X1 ++ X2)) (hY : Srt (Y1 ++ Y2)) (h1 : ∀ x ∈ X1, ∀ y ∈ Y2, ¬ ltF y x) (h2 : ∀ y ∈ Y1, ∀ x ∈ X2, ltF y x)
    (s1 : Srt Z1) (s2 : Srt Z2) (t1 : Stab (X1 ++ Y1) Z1) (t2 : Stab (X2 ++ Y2) Z2) : Srt (Z1 ++ Z2) ∧ Stab ((X1 ++ X2) ++ (Y1 ++ Y2)) (Z1 ++ Z2) := by
  obtain ⟨_, _, hx⟩ := srt_app.1 hX
  obtain ⟨_, _, hy⟩ := srt_app.1 hY
  refine ⟨srt_app.2 ⟨s1, s2, fun a ha b hb => ?_⟩, ?_⟩
  · rcases List.mem_append.1 (t1.mem ha) with ha | ha <;> rcases List.mem_append.1 (t2.mem hb) with hb | hb
    · exact hx a ha b hb
    · exact h1 a ha b hb
    · exact ltF_asymm (h2 a ha b hb)
    · exact hy a ha b hb
  · have hc : Stab (X2 ++ Y1) (Y1 ++ X2) := Stab.comm fun x hx y hy => (ltF_ne (h2 y hy x hx)).symm
    have e1 : Stab ((X1 ++ X2) ++ (Y1 ++ Y2)) (X1 ++ (Y1 ++ X2) ++ Y2) := by
      rw [show (X1 ++ X2) ++ (Y1 ++ Y2) = X1 ++ (X2 ++ Y1) ++ Y2 by simp only [List.append_assoc]]
      exact ((Stab.rfl' X1).app hc).app (Stab.rfl' Y2)
    refine e1.trans ?_
    rw [show X1 ++ (Y1 ++ X2) ++ Y2 = (X1 ++ Y1) ++ (X2 ++ Y2) by simp only [List.append_assoc]]
    exact t1.app t2
/-- All of a sorted list by its last, or first, one. -/
theorem srt_last {X : List Fl} {x : Fl} (h : Srt (X ++ [x])) : ∀ a ∈ X ++ [x], ¬ ltF x a := fun a ha => by
  rcases List.mem_append.1 ha with h1 | h1
  · exact (srt_app.1 h).2.2 a h1 x (by simp)
  · simp at h1; subst h1; exact ltF_irr _
theorem srt_head {X : List Fl} {x : Fl} (h : Srt (x :: X)) : ∀ a ∈ x :: X, ¬ ltF a x := fun a ha => by
  rcases List.mem_cons.1 ha with rfl | h1
  · exact ltF_irr _
  · exact (List.pairwise_cons.1 h).1 a h1
/-- One file brought to its place. -/
theorem ins_law {A1 A2 : List Fl} {x : Fl} (hA : Srt (A1 ++ A2)) (h1 : ∀ a ∈ A1, ¬ ltF x a) (h2 : ∀ a ∈ A2, ltF x a) : Srt (A1 ++ x :: A2) ∧ Stab ((A1 ++ A2) ++ [x]) (A1 ++ x :: A2) := by
  obtain ⟨a1, a2, a3⟩ := srt_app.1 hA
  have hs : Srt (x :: A2) := List.pairwise_cons.2 ⟨fun a ha => ltF_asymm (h2 a ha), a2⟩
  refine ⟨srt_app.2 ⟨a1, hs, fun a ha b hb => ?_⟩, ?_⟩
  · rcases List.mem_cons.1 hb with rfl | hb
    · exact h1 a ha
    · exact a3 a ha b hb
  · rw [List.append_assoc]
    exact (Stab.rfl' A1).app (Stab.comm fun a ha y hy => by simp at hy; subst hy; exact (ltF_ne (h2 a ha)).symm)
/-- The same, from the left. -/
theorem ins_law2 {A1 A2 : List Fl} {x : Fl} (hA : Srt (A1 ++ A2)) (h1 : ∀ a ∈ A1, ltF a x) (h2 : ∀ a ∈ A2, ¬ ltF a x) : Srt (A1 ++ x :: A2) ∧ Stab ([x] ++ (A1 ++ A2)) (A1 ++ x :: A2) := by
  obtain ⟨a1, a2, a3⟩ := srt_app.1 hA
  have hs : Srt (x :: A2) := List.pairwise_cons.2 ⟨fun a ha => h2 a ha, a2⟩
  refine ⟨srt_app.2 ⟨a1, hs, fun a ha b hb => ?_⟩, ?_⟩
  · rcases List.mem_cons.1 hb with rfl | hb
    · exact ltF_asymm (h1 a ha)
    · exact a3 a ha b hb
  · rw [← List.append_assoc, show A1 ++ x :: A2 = (A1 ++ [x]) ++ A2 by simp]
    exact (Stab.comm fun y hy a ha => by simp at hy; subst hy; exact (ltF_ne (h1 a ha)).symm).app (Stab.rfl' A2)
end Go.Proofs.Ytnhbkfefpkocaaa
