/-
  Items in a row; index.compare; slices.BinarySearchFunc.
-/
import Derived.Test.YtnhbkfefpkocaaaP4
import Derived.Shelf.SlSortCmp.QuietGrown
namespace Go.Proofs.Ytnhbkfefpkocaaa
open Go.RowKit Go.Sort

structure It where
  p : ByteArray
  id : Int
  sz : Int
  sm : ByteArray
instance : Inhabited It := ⟨⟨⟨#[]⟩, 0, 0, ⟨#[]⟩⟩⟩
/-- The cells of items. -/
def itf : List It → List Value
  | [] => []
  | x :: l => .string x.p :: .int .i64 x.id :: .int .i64 x.sz :: .string x.sm :: itf l
theorem itf_len (l : List It) : (itf l).length = l.length * 4 := by
  induction l with
  | nil => rfl
  | cons x l ih => simp only [itf, List.length_cons, ih]; omega
theorem itf_app (a b : List It) : itf (a ++ b) = itf a ++ itf b := by
  induction a with
  | nil => rfl
  | cons x a ih => simp only [List.cons_append, itf, ih]
theorem itf_one (l : List It) : ∀ u ∈ itf l, u.oneCell' = true := by
  induction l with
  | nil => intro u hu; cases hu
  | cons x l ih =>
    intro u hu
    simp only [itf, List.mem_cons] at hu
    rcases hu with rfl | rfl | rfl | rfl | hu
    · rfl
    · rfl
    · rfl
    · rfl
    · exact ih u hu
theorem itf_get0 (l : List It) (i : Nat) : (itf l)[i * 4]? = l[i]?.map fun x => Value.string x.p := by
  induction l generalizing i with
  | nil => simp [itf]
  | cons x l ih =>
    cases i with
    | zero => rfl
    | succ i => rw [show (i + 1) * 4 = i * 4 + 1 + 1 + 1 + 1 by omega]; simp only [itf, List.getElem?_cons_succ]; exact ih i
theorem itf_get1 (l : List It) (i : Nat) : (itf l)[i * 4 + 1]? = l[i]?.map fun x => Value.int .i64 x.id := by
  induction l generalizing i with
  | nil => simp [itf]
  | cons x l ih =>
    cases i with
    | zero => rfl
    | succ i => rw [show (i + 1) * 4 + 1 = i * 4 + 1 + 1 + 1 + 1 + 1 by omega]; simp only [itf, List.getElem?_cons_succ]; exact ih i
theorem itf_get2 (l : List It) (i : Nat) : (itf l)[i * 4 + 2]? = l[i]?.map fun x => Value.int .i64 x.sz := by
  induction l generalizing i with
  | nil => simp [itf]
  | cons x l ih =>
    cases i with
    | zero => rfl
    | succ i => rw [show (i + 1) * 4 + 2 = i * 4 + 2 + 1 + 1 + 1 + 1 by omega]; simp only [itf, List.getElem?_cons_succ]; exact ih i
theorem itf_get3 (l : List It) (i : Nat) : (itf l)[i * 4 + 3]? = l[i]?.map fun x => Value.string x.sm := by
  induction l generalizing i with
  | nil => simp [itf]
  | cons x l ih =>
    cases i with
    | zero => rfl
    | succ i => rw [show (i + 1) * 4 + 3 = i * 4 + 3 + 1 + 1 + 1 + 1 by omega]; simp only [itf, List.getElem?_cons_succ]; exact ih i
theorem itf_set (l : List It) (i : Nat) (x : It) : itf (l.set i x) = ((((itf l).set (i * 4) (.string x.p)).set (i * 4 + 1) (.int .i64 x.id)).set (i * 4 + 2) (.int .i64 x.sz)).set (i * 4 + 3) (.string x.sm) := by
  induction l generalizing i with
  | nil => simp [itf]
  | cons y l ih =>
    cases i with
    | zero => rfl
    | succ i =>
      rw [show (i + 1) * 4 = i * 4 + 1 + 1 + 1 + 1 by omega, show i * 4 + 1 + 1 + 1 + 1 + 1 = (i * 4 + 1) + 1 + 1 + 1 + 1 by omega, show i * 4 + 1 + 1 + 1 + 1 + 2 = (i * 4 + 2) + 1 + 1 + 1 + 1 by omega, show i * 4 + 1 + 1 + 1 + 1 + 3 = (i * 4 + 3) + 1 + 1 + 1 + 1 by omega]
      simp only [List.set_cons_succ, itf, ih]
theorem itf_take (l : List It) (k : Nat) : (itf l).take (k * 4) = itf (l.take k) := by
  induction k generalizing l with
  | zero => simp [itf]
  | succ k ih =>
    cases l with
    | nil => simp [itf]
    | cons x l => rw [show (k + 1) * 4 = k * 4 + 1 + 1 + 1 + 1 by omega]; simp only [itf, List.take_succ_cons]; rw [ih]
theorem itf_drop (l : List It) (k : Nat) : (itf l).drop (k * 4) = itf (l.drop k) := by
  induction k generalizing l with
  | zero => simp
  | succ k ih =>
    cases l with
    | nil => simp [itf]
    | cons x l => rw [show (k + 1) * 4 = k * 4 + 1 + 1 + 1 + 1 by omega]; simp only [itf, List.drop_succ_cons]; rw [ih]

theorem Rd.item {w : World} {A : Option Addr} {l : List It} (h : Rd w A (itf l)) {i : Nat} {x : It} (hx : l[i]? = some x) :
    ∃ b o, A = some ⟨b, o, none⟩ ∧ b < w.heap.size ∧ w.cell? ⟨b, o + i * 4, none⟩ = some (.string x.p) ∧ w.cell? ⟨b, o + i * 4 + 1, none⟩ = some (.int .i64 x.id) ∧ w.cell? ⟨b, o + i * 4 + 2, none⟩ = some (.int .i64 x.sz) ∧ w.cell? ⟨b, o + i * 4 + 3, none⟩ = some (.string x.sm) := by
  have hi : i < l.length := (List.getElem?_eq_some_iff.1 hx).1
  obtain ⟨b, o, e, hc⟩ := h (by intro e; have := itf_len l; rw [e] at this; simp at this; omega)
  have q0 := hc (i * 4) (.string x.p) (by rw [itf_get0, hx]; rfl)
  have q1 := hc (i * 4 + 1) (.int .i64 x.id) (by rw [itf_get1, hx]; rfl)
  have q2 := hc (i * 4 + 2) (.int .i64 x.sz) (by rw [itf_get2, hx]; rfl)
  have q3 := hc (i * 4 + 3) (.string x.sm) (by rw [itf_get3, hx]; rfl)
  exact ⟨b, o, e, World.block_lt_of_cell? w _ q0, q0, q1, q2, q3⟩
theorem itf_nil {l : List It} (h : itf l = []) : l = [] := List.eq_nil_of_length_eq_zero (by have := itf_len l; rw [h] at this; simp at this; omega)

set_option maxRecDepth 20000 in
theorem cmpI_any (x y : It) (c : Int) (hc : cmpB x.p y.p = c) (w : World) :
    Calls Try.prog 39 #[.agg #[.string x.p, .int .i64 x.id, .int .i64 x.sz, .string x.sm], .agg #[.string y.p, .int .i64 y.id, .int .i64 y.sz, .string y.sm]] w fun e w' => e = .returned (.int .i64 c) ∧ ∃ q os', w' = grow (w.drewN q) os' := by
  have HC := Lib.hid (And.intro hc trivial)
  clear hc
  go_enter Try.func39, Try.ntmps39
  go_wp2_with fail
  refine (compare_any x.p y.p _).mono ?_
  rw [HC.out.1]
  rintro e w1 ⟨rfl, rfl⟩
  go_wp2_with fail
  go_ret
  exact ⟨rfl, 0, _, by rw [alloc_eq_grow, alloc_eq_grow, grow_grow]; rfl⟩

/-- Items in the order of their paths, no path twice. -/
def SrtI (l : List It) : Prop := l.Pairwise fun x y => x.p.toList < y.p.toList
/-- Where a path stands, or would. -/
def posI (p : ByteArray) (l : List It) : Nat := (l.takeWhile fun x => decide (x.p.toList < p.toList)).length
def foundI (p : ByteArray) (l : List It) : Bool := decide (∃ x, l[posI p l]? = some x ∧ x.p = p)
theorem cmp_lt (a b : ByteArray) : cmpB a b < 0 ↔ a.toList < b.toList := cb_lt _ _
theorem cmp_zero (a b : ByteArray) : cmpB a b = 0 ↔ a = b := by
  constructor
  · intro h
    have h1 : ¬ a.toList < b.toList := fun hl => by have := (cmp_lt a b).2 hl; omega
    have h2 : ¬ b.toList < a.toList := fun hl => by
      have := (cmp_lt b a).2 hl
      have hs : cmpB b a = - cmpB a b := cb_swap _ _
      omega
    exact str_eq (List.le_antisymm (List.not_lt.1 h2) (List.not_lt.1 h1))
  · rintro rfl
    exact cb_self _
theorem posI_le (p : ByteArray) (l : List It) : posI p l ≤ l.length := (List.takeWhile_sublist _).length_le
theorem posI_eq (p : ByteArray) : ∀ (l : List It) (i : Nat), i ≤ l.length → (∀ t x, t < i → l[t]? = some x → x.p.toList < p.toList) → (∀ x, l[i]? = some x → ¬ x.p.toList < p.toList) → posI p l = i
  | [], i, hi, _, _ => by simp at hi; subst hi; rfl
  | a :: l, 0, _, _, h2 => by
    have := h2 a rfl
    simp [posI, this]
  | a :: l, i + 1, hi, h1, h2 => by
    have ha := h1 0 a (by omega) rfl
    have ih := posI_eq p l i (by simpa using hi) (fun t x ht hx => h1 (t + 1) x (by omega) (by simpa using hx)) (fun x hx => h2 x (by simpa using hx))
    unfold posI at ih ⊢
    rw [List.takeWhile_cons_of_pos (by simpa using ha), List.length_cons, ih]
theorem srtI_le {l : List It} (h : SrtI l) {i j : Nat} {x y : It} (hij : i ≤ j) (hx : l[i]? = some x) (hy : l[j]? = some y) : x.p.toList ≤ y.p.toList := by
  rcases Nat.lt_or_eq_of_le hij with h1 | rfl
  · obtain ⟨hi, rfl⟩ := List.getElem?_eq_some_iff.1 hx
    obtain ⟨hj, rfl⟩ := List.getElem?_eq_some_iff.1 hy
    exact List.le_of_lt (List.pairwise_iff_getElem.1 h i j hi hj h1)
  · rw [hx] at hy
    cases hy
    exact List.le_refl _
/-- What memory holds in a search: the target in a box. -/
def BsW (w wr : World) (g : Nat) (x : It) : Prop := (∃ q os, wr = grow (w.drewN q) os) ∧ g < wr.heap.size ∧ Bk wr g 46 #[.string x.p, .int .i64 x.id, .int .i64 x.sz, .string x.sm]
theorem gr_bel (w : World) (n : Nat) (os : Array Obj) : Below w.heap.size w (grow (w.drewN n) os) :=
  ⟨rfl, rfl, rfl, by show w.heap.size ≤ (w.heap ++ os).size; rw [Array.size_append]; omega, fun k hk => by show (w.heap ++ os)[k]? = w.heap[k]?; exact Array.getElem?_append_left hk⟩
theorem BsW.bl {w wr : World} {g : Nat} {x : It} (h : BsW w wr g x) : Below w.heap.size w wr := by
  obtain ⟨⟨q, os, rfl⟩, _⟩ := h
  exact gr_bel _ _ _
theorem drewN_gr (w : World) (n : Nat) (os : Array Obj) : (grow w os).drewN n = grow (w.drewN n) os := rfl
theorem BsW.grown {w wr : World} {g : Nat} {x : It} (h : BsW w wr g x) (q : Nat) (os : Array Obj) : BsW w (grow (wr.drewN q) os) g x := by
  obtain ⟨⟨q0, os0, rfl⟩, h1, h2⟩ := h
  refine ⟨⟨q0 + q, os0 ++ os, ?_⟩, ?_, h2.below' (gr_bel _ _ _)⟩
  · rw [drewN_gr, grow_grow, World.drewN_drewN]
  · have := (gr_bel (grow (w.drewN q0) os0) q os).size
    omega
/-- Where the search stands. -/
def BsI (L : List It) (p : ByteArray) (lo hi : Nat) : Prop := (∀ t y, t < lo → L[t]? = some y → y.p.toList < p.toList) ∧ ∀ t y, hi ≤ t → L[t]? = some y → ¬ y.p.toList < p.toList
def iOfI : Value → Nat
  | .int _ n => n.toNat
  | _ => 0

set_option maxRecDepth 20000 in
set_option maxHeartbeats 2000000 in
theorem bsearch_any (L : List It) (A : Option Addr) (n c : Nat) (hn : L.length = n) (hS : SrtI L) (hb : n ≤ 1000000) (x : It) (w : World) (hr : Rd w A (itf L)) :
    Calls Try.prog 38 #[.slice A n c, .agg #[.string x.p, .int .i64 x.id, .int .i64 x.sz, .string x.sm], .func (.func 39) #[] #[]] w fun e w' =>
      e = .returned (.tuple #[.int .i64 (posI x.p L : Nat), .bool (foundI x.p L)]) ∧ ∃ q os', w' = grow (w.drewN q) os' := by
  have mixed : Try.prog.follows Departure.mixedOrders = true := by kernel_rfl
  have HN := Lib.hid (And.intro hn trivial)
  have HS := Lib.hid hS
  have HR := Lib.hid hr
  clear hn hS hr
  go_enter Try.func38, Try.ntmps38
  go_wp2_with fail
  obtain ⟨g, hg⟩ : ∃ g, w.heap.size = g := ⟨_, rfl⟩
  have H1 : Hid (BsW w (w.alloc (.cells #[.string x.p, .int .i64 x.id, .int .i64 x.sz, .string x.sm] 46)) g x) := Lib.hid ⟨⟨0, #[.cells #[.string x.p, .int .i64 x.id, .int .i64 x.sz, .string x.sm] 46], alloc_eq_grow _ _⟩, by rw [← hg]; exact ⟨by simp, Bk.new w _ _⟩⟩
  rw [hg]
  clear hg
  generalize w.alloc (.cells #[.string x.p, .int .i64 x.id, .int .i64 x.sz, .string x.sm] 46) = w1 at *
  go_loopw [9, 10] (fun vl vh wr => ∃ lo hi : Nat, vl = .int .i64 (lo : Nat) ∧ vh = .int .i64 (hi : Nat) ∧ lo ≤ hi ∧ hi ≤ n ∧ Hid (BsI L x.p lo hi) ∧ Hid (BsW w wr g x)) (fun vl vh _ => iOfI vh - iOfI vl)
  case atStart => exact ⟨0, n, rfl, rfl, by omega, by omega, Lib.hid ⟨fun t y ht => by omega, fun t y ht hy => by have := (List.getElem?_eq_some_iff.1 hy).1; rw [HN.out.1] at this; omega⟩, H1⟩
  case round =>
    clear H1
    obtain ⟨lo, hi, rfl, rfl, hlh, hhn, HI, HW⟩ := hrel
    have c0 := fun q os => cell_grown (w := wr) (a := ⟨g, 0, none⟩) HW.out.2.1 (HW.out.2.2.cell 0) q os
    have c1 := fun q os => cell_grown (w := wr) (a := ⟨g, 1, none⟩) HW.out.2.1 (HW.out.2.2.cell 1) q os
    have c2 := fun q os => cell_grown (w := wr) (a := ⟨g, 2, none⟩) HW.out.2.1 (HW.out.2.2.cell 2) q os
    have c3 := fun q os => cell_grown (w := wr) (a := ⟨g, 3, none⟩) HW.out.2.1 (HW.out.2.2.cell 3) q os
    by_cases hlt : lo < hi
    · have hl1 : (lo : Int) < (hi : Int) := by omega
      obtain ⟨h, hh⟩ : ∃ h, (lo + hi) / 2 = h := ⟨_, rfl⟩
      have hmid : ((lo : Int) + (hi : Int)) / 2 = (h : Int) := by omega
      have hz : (h : Int) < (n : Int) := by omega
      have hhl : lo ≤ h ∧ h < hi := by omega
      obtain ⟨y, hy⟩ : ∃ y, L[h]? = some y := ⟨_, List.getElem?_eq_getElem (by rw [HN.out.1]; omega)⟩
      obtain ⟨b, o, rfl, hbl, r0, r1, r2, r3⟩ := (HR.out.below HW.out.bl).item hy
      have r0' := fun q os => cell_grown (w := wr) hbl r0 q os
      have r1' := fun q os => cell_grown (w := wr) hbl r1 q os
      have r2' := fun q os => cell_grown (w := wr) hbl r2 q os
      have r3' := fun q os => cell_grown (w := wr) hbl r3 q os
      obtain ⟨k, hk⟩ : ∃ k, cmpB y.p x.p = k := ⟨_, rfl⟩
      have hkl := cmp_lt y.p x.p
      rw [hk] at hkl
      have HK := Lib.hid (And.intro hk (And.intro hkl hy))
      clear hk hkl hy r0 r1 r2 r3 hh hbl
      by_cases hneg : k < 0
      · go_wp2_with fail
        go_quiet_grown (first | (go_at_call 39; refine Calls.grown_of (cmpI_any y x k HK.out.1 _)))
        go_wp2_with fail
        go_round
        case rel => exact ⟨h + 1, hi, by first | rfl | go_num, rfl, by omega, hhn, Lib.hid ⟨fun t z ht hz => by
          rcases Nat.lt_or_eq_of_le (Nat.le_of_lt_succ ht) with h1 | h1
          · exact List.lt_of_le_of_lt (srtI_le HS.out (Nat.le_of_lt h1) hz HK.out.2.2) (HK.out.2.1.1 hneg)
          · rw [h1] at hz; exact List.lt_of_le_of_lt (srtI_le HS.out (Nat.le_refl _) hz HK.out.2.2) (HK.out.2.1.1 hneg), HI.out.2⟩, Lib.hid (HW.out.grown nq osq)⟩
        case measure => simp [iOfI]; omega
      · go_wp2_with fail
        go_quiet_grown (first | (go_at_call 39; refine Calls.grown_of (cmpI_any y x k HK.out.1 _)))
        go_wp2_with fail
        go_round
        case rel => exact ⟨lo, h, rfl, rfl, by omega, by omega, Lib.hid ⟨HI.out.1, fun t z ht hz hlt => by have := HK.out.2.1.2 (List.lt_of_le_of_lt (srtI_le HS.out ht HK.out.2.2 hz) hlt); omega⟩, Lib.hid (HW.out.grown nq osq)⟩
        case measure => simp [iOfI]; omega
    · obtain rfl : hi = lo := by omega
      have hpos : posI x.p L = hi := posI_eq x.p L hi (by rw [HN.out.1]; omega) HI.out.1 (fun y hy => HI.out.2 hi y (Nat.le_refl _) hy)
      have HP := Lib.hid (And.intro hpos trivial)
      clear hpos
      by_cases hln : hi < n
      · have hl1 : (hi : Int) < (n : Int) := by omega
        obtain ⟨y, hy⟩ : ∃ y, L[hi]? = some y := ⟨_, List.getElem?_eq_getElem (by rw [HN.out.1]; omega)⟩
        obtain ⟨b, o, rfl, hbl, r0, r1, r2, r3⟩ := (HR.out.below HW.out.bl).item hy
        have r0' := fun q os => cell_grown (w := wr) hbl r0 q os
        have r1' := fun q os => cell_grown (w := wr) hbl r1 q os
        have r2' := fun q os => cell_grown (w := wr) hbl r2 q os
        have r3' := fun q os => cell_grown (w := wr) hbl r3 q os
        obtain ⟨k, hk⟩ : ∃ k, cmpB y.p x.p = k := ⟨_, rfl⟩
        have hf : foundI x.p L = (k == 0) := by
          unfold foundI
          rw [HP.out.1, hy, Bool.eq_iff_iff]
          have := cmp_zero y.p x.p
          rw [hk] at this
          simp [this]
        have HK := Lib.hid (And.intro hk (And.intro hf hy))
        clear hk hf hy r0 r1 r2 r3 hbl
        go_wp2_with fail
        go_quiet_grown (first | (go_at_call 39; refine Calls.grown_of (cmpI_any y x k HK.out.1 _)))
        go_wp2_with fail
        go_ret2
        rw [HP.out.1, HK.out.2.1]
        refine ⟨rfl, ?_⟩
        exact (HW.out.grown nq osq).1
      · have hl1 : ¬ ((hi : Int) < (n : Int)) := by omega
        have hf : foundI x.p L = false := by
          unfold foundI
          rw [HP.out.1, List.getElem?_eq_none (by rw [HN.out.1]; omega)]
          simp
        have HF := Lib.hid (And.intro hf trivial)
        clear hf
        go_wp2_with fail
        go_big_region_o
        all_goals go_wp2_with fail
        go_ret2
        rw [HP.out.1, HF.out.1]
        refine ⟨rfl, ?_⟩
        have := (HW.out.grown 1 #[]).1
        rw [grow_empty] at this
        exact this
end Go.Proofs.Ytnhbkfefpkocaaa
