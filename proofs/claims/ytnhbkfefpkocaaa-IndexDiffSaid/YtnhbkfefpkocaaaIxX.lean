/-
  index.Diff.
-/
import Derived.Test.YtnhbkfefpkocaaaIxW
import Derived.Test.YtnhbkfefpkocaaaShelf
import Derived.Deep.CutBlock
namespace Go.Proofs.Ytnhbkfefpkocaaa
open Go.RowKit Go.Sort

/-- A change's cells. -/
def ch8 (c : It × It) : List Value := [.string c.1.p, .int .i64 c.1.id, .int .i64 c.1.sz, .string c.1.sm, .string c.2.p, .int .i64 c.2.id, .int .i64 c.2.sz, .string c.2.sm]
def chf : List (It × It) → List Value
  | [] => []
  | c :: l => ch8 c ++ chf l
theorem chf_len (l : List (It × It)) : (chf l).length = l.length * 8 := by
  induction l with
  | nil => rfl
  | cons x l ih => simp only [chf, List.length_append, ih, List.length_cons]; show 8 + _ = _; omega
theorem chf_app (a b : List (It × It)) : chf (a ++ b) = chf a ++ chf b := by
  induction a with
  | nil => rfl
  | cons x a ih => simp only [List.cons_append, chf, ih, List.append_assoc]
theorem chf_one (c : It × It) : chf [c] = ch8 c := by simp [chf]
theorem chf_get (l : List (It × It)) (i j : Nat) (hj : j < 8) (c : It × It) (h : l[i]? = some c) : (chf l)[i * 8 + j]? = (ch8 c)[j]? := by
  induction l generalizing i with
  | nil => simp at h
  | cons x l ih =>
    cases i with
    | zero =>
      simp only [List.getElem?_cons_zero, Option.some.injEq] at h
      subst h
      rw [chf, Nat.zero_mul, Nat.zero_add, List.getElem?_append_left (by show j < 8; exact hj)]
    | succ i =>
      rw [chf, List.getElem?_append_right (by show 8 ≤ _; omega)]
      have := ih i (by simpa using h)
      rw [← this]
      congr 1
      show (i + 1) * 8 + j - 8 = _
      omega
theorem Rd.chg {w : World} {A : Option Addr} {l : List (It × It)} (h : Rd w A (chf l)) {i : Nat} {x y : It} (hx : l[i]? = some (x, y)) :
    ∃ b o, A = some ⟨b, o, none⟩ ∧ b < w.heap.size ∧ w.cell? ⟨b, o + i * 8, none⟩ = some (.string x.p) ∧ w.cell? ⟨b, o + i * 8 + 1, none⟩ = some (.int .i64 x.id) ∧ w.cell? ⟨b, o + i * 8 + 2, none⟩ = some (.int .i64 x.sz) ∧ w.cell? ⟨b, o + i * 8 + 3, none⟩ = some (.string x.sm)
      ∧ w.cell? ⟨b, o + i * 8 + 4, none⟩ = some (.string y.p) ∧ w.cell? ⟨b, o + i * 8 + 5, none⟩ = some (.int .i64 y.id) ∧ w.cell? ⟨b, o + i * 8 + 6, none⟩ = some (.int .i64 y.sz) ∧ w.cell? ⟨b, o + i * 8 + 7, none⟩ = some (.string y.sm) := by
  have hi : i < l.length := (List.getElem?_eq_some_iff.1 hx).1
  obtain ⟨b, o, e, hc⟩ := h (by intro e; have := chf_len l; rw [e] at this; simp at this; omega)
  have q : ∀ j v, j < 8 → (ch8 (x, y))[j]? = some v → w.cell? ⟨b, o + i * 8 + j, none⟩ = some v := fun j v hj hv => by
    have := hc (i * 8 + j) v (by rw [chf_get l i j hj _ hx]; exact hv)
    rwa [← Nat.add_assoc] at this
  have q0 := q 0 _ (by omega) rfl
  exact ⟨b, o, e, World.block_lt_of_cell? w _ q0, q0, q 1 _ (by omega) rfl, q 2 _ (by omega) rfl, q 3 _ (by omega) rfl, q 4 _ (by omega) rfl, q 5 _ (by omega) rfl, q 6 _ (by omega) rfl, q 7 _ (by omega) rfl⟩
theorem ch8_one (c : It × It) : ∀ u ∈ (ch8 c).toArray.toList, u.oneCell' = true := fun u hu => by
  simp [ch8] at hu
  rcases hu with rfl | rfl | rfl | rfl | rfl | rfl | rfl | rfl <;> rfl
theorem el_chg : El Try.prog 42 48 8 96 := El.mk_ (z := .agg #[.string ⟨#[]⟩, .int .i64 0, .int .i64 0, .string ⟨#[]⟩, .string ⟨#[]⟩, .int .i64 0, .int .i64 0, .string ⟨#[]⟩]) Try.underlying42 (by kernel_rfl) (by omega) rfl
/-- Changes as a call's answer. -/
def ChE (w : World) (l : List (It × It)) (e : Ending) (w' : World) : Prop := ∃ B d, e = .returned (.slice B l.length d) ∧ l.length ≤ d ∧ d ≤ maxLen ∧ Rd w' B (chf l) ∧ Below w.heap.size w w'
theorem Rd.tailI {w : World} {b o : Nat} {x : It} {l : List It} (h : Rd w (some ⟨b, o, none⟩) (itf (x :: l))) : Rd w (some ⟨b, o + 4, none⟩) (itf l) := fun hn => by
  obtain ⟨b', o', e, hc⟩ := h (by simp [itf])
  cases e
  refine ⟨b, o + 4, rfl, fun j u hj => ?_⟩
  rw [show o + 4 + j = o + (j + 1 + 1 + 1 + 1) by omega]
  exact hc _ u (by simp only [itf, List.getElem?_cons_succ]; exact hj)
def nOfS : Value → Nat
  | .slice _ n _ => n
  | _ => 0
theorem ke8 {w w6 : World} (h : Below w.heap.size w w6) (b : Nat) (hb : w.heap.size ≤ b) (v0 v1 v2 v3 : Value) : Below w.heap.size w ((((w6.setCell ⟨b, 4, none⟩ v0).setCell ⟨b, 5, none⟩ v1).setCell ⟨b, 6, none⟩ v2).setCell ⟨b, 7, none⟩ v3) :=
  (((h.setCell (p := ⟨b, 4, none⟩) hb _).setCell (p := ⟨b, 5, none⟩) hb _).setCell (p := ⟨b, 6, none⟩) hb _).setCell (p := ⟨b, 7, none⟩) hb _

theorem Bk.fourA {w : World} {g : Nat} {t : TypeId} {x0 y : It} (h : Bk w g t (ch8 (x0, y)).toArray) (x : It) : Bk ((((w.setCell ⟨g, 0, none⟩ (.string x.p)).setCell ⟨g, 1, none⟩ (.int .i64 x.id)).setCell ⟨g, 2, none⟩ (.int .i64 x.sz)).setCell ⟨g, 3, none⟩ (.string x.sm)) g t (ch8 (x, y)).toArray :=
  (((h.set_ 0 (.string x.p)).set_ 1 (.int .i64 x.id)).set_ 2 (.int .i64 x.sz)).set_ 3 (.string x.sm)
theorem Bk.fourB {w : World} {g : Nat} {t : TypeId} {x y0 : It} (h : Bk w g t (ch8 (x, y0)).toArray) (y : It) : Bk ((((w.setCell ⟨g, 4, none⟩ (.string y.p)).setCell ⟨g, 5, none⟩ (.int .i64 y.id)).setCell ⟨g, 6, none⟩ (.int .i64 y.sz)).setCell ⟨g, 7, none⟩ (.string y.sm)) g t (ch8 (x, y)).toArray :=
  (((h.set_ 4 (.string y.p)).set_ 5 (.int .i64 y.id)).set_ 6 (.int .i64 y.sz)).set_ 7 (.string y.sm)
/-- What is taken, and what is left. -/
def hdI (b : Bool) (l : List It) : It := if b then l.headD default else default
def tlI (b : Bool) (l : List It) : List It := if b then l.tail else l
/-- What the switch says. -/
def SwI (la lb : List It) (k : Int) : Prop := (la = [] ∧ lb ≠ [] ∧ k = 1) ∨ (la ≠ [] ∧ lb = [] ∧ k = -1) ∨ (la ≠ [] ∧ lb ≠ [] ∧ k = cmpB (la.headD default).p (lb.headD default).p)
theorem SwI.law {la lb : List It} {k : Int} (h : SwI la lb k) : diffI la lb = emI (hdI (decide (k ≤ 0)) la) (hdI (decide (0 ≤ k)) lb) ++ diffI (tlI (decide (k ≤ 0)) la) (tlI (decide (0 ≤ k)) lb) := by
  rcases h with ⟨rfl, h, rfl⟩ | ⟨h, rfl, rfl⟩ | ⟨h1, h2, hk⟩
  · cases lb with
    | nil => exact absurd rfl h
    | cons y lb => rw [diffI]; rfl
  · cases la with
    | nil => exact absurd rfl h
    | cons x la => rw [diffI]; rfl
  · cases la with
    | nil => exact absurd rfl h1
    | cons x la =>
      cases lb with
      | nil => exact absurd rfl h2
      | cons y lb =>
        simp only [List.headD_cons] at hk
        have q1 := cmp_lt x.p y.p
        have q2 := cmp_zero x.p y.p
        rw [← hk] at q1 q2
        rw [diffI]
        by_cases h3 : k < 0
        · rw [if_pos (q1.1 h3), decide_eq_true (by omega : k ≤ 0), decide_eq_false (by omega : ¬ 0 ≤ k)]
          rfl
        · rw [if_neg (fun h => h3 (q1.2 h)), decide_eq_true (by omega : 0 ≤ k)]
          by_cases h4 : k = 0
          · rw [if_neg (by rw [q2.1 h4]; exact List.lt_irrefl _), decide_eq_true (by omega : k ≤ 0)]
            rfl
          · rw [if_pos, decide_eq_false (by omega : ¬ k ≤ 0)]
            · rfl
            · have h5 : ¬ x.p.toList < y.p.toList := fun h => h3 (q1.2 h)
              by_cases h : y.p.toList < x.p.toList
              · exact h
              · exact absurd (q2.2 (str_eq (List.le_antisymm (List.not_lt.1 h) (List.not_lt.1 h5)))) h4
theorem SwI.needA {la lb : List It} {k : Int} (h : SwI la lb k) (hk : k ≤ 0) : la ≠ [] := by
  rcases h with ⟨_, _, rfl⟩ | ⟨h, _, _⟩ | ⟨h, _, _⟩
  · omega
  · exact h
  · exact h
theorem SwI.needB {la lb : List It} {k : Int} (h : SwI la lb k) (hk : 0 ≤ k) : lb ≠ [] := by
  rcases h with ⟨_, h, _⟩ | ⟨_, _, rfl⟩ | ⟨_, h, _⟩
  · exact h
  · omega
  · exact h
theorem SwI.less {la lb : List It} {k : Int} (h : SwI la lb k) : (tlI (decide (k ≤ 0)) la).length + (tlI (decide (0 ≤ k)) lb).length + 1 ≤ la.length + lb.length := by
  have e : ∀ (b : Bool) (l : List It), (tlI b l).length ≤ l.length := fun b l => by unfold tlI; split <;> simp
  have e2 : ∀ (l : List It), l ≠ [] → (tlI true l).length + 1 = l.length := fun l hl => by
    cases l with
    | nil => exact absurd rfl hl
    | cons x l => rfl
  by_cases h1 : k ≤ 0
  · have := e2 la (h.needA h1)
    have := e (decide (0 ≤ k)) lb
    rw [decide_eq_true h1]
    omega
  · have := e2 lb (h.needB (by omega))
    have := e (decide (k ≤ 0)) la
    rw [decide_eq_true (by omega : 0 ≤ k)]
    omega
theorem Rd.head {w : World} {A : Option Addr} {x : It} {l : List It} (h : Rd w A (itf (x :: l))) :
    ∃ b o, A = some ⟨b, o, none⟩ ∧ b < w.heap.size ∧ w.cell? ⟨b, o, none⟩ = some (.string x.p) ∧ w.cell? ⟨b, o + 1, none⟩ = some (.int .i64 x.id) ∧ w.cell? ⟨b, o + 2, none⟩ = some (.int .i64 x.sz) ∧ w.cell? ⟨b, o + 3, none⟩ = some (.string x.sm) := by
  obtain ⟨b, o, e, h1, q⟩ := h.item (i := 0) (x := x) rfl
  simp only [Nat.zero_mul, Nat.add_zero] at q
  exact ⟨b, o, e, h1, q⟩
/-- Behind the switch. -/
def CutS (wr : World) (la lb : List It) (vc : Value) (wx : World) : Prop := ∃ k, vc = .int .i64 k ∧ SwI la lb k ∧ Below wr.heap.size wr wx
/-- Behind the take of the first head. -/
def CutA (w0 wr : World) (la : List It) (k : Int) (g : Nat) (va : Value) (wx : World) : Prop :=
  ∃ A c, va = .slice A (tlI (decide (k ≤ 0)) la).length c ∧ (tlI (decide (k ≤ 0)) la).length ≤ c ∧ c ≤ maxLen ∧ Rd w0 A (itf (tlI (decide (k ≤ 0)) la)) ∧ Bk wx g 48 (ch8 (hdI (decide (k ≤ 0)) la, default)).toArray ∧ Below wr.heap.size wr wx
def CutB (w0 wr : World) (lb : List It) (k : Int) (x : It) (g : Nat) (vb : Value) (wx : World) : Prop :=
  ∃ B d, vb = .slice B (tlI (decide (0 ≤ k)) lb).length d ∧ (tlI (decide (0 ≤ k)) lb).length ≤ d ∧ d ≤ maxLen ∧ Rd w0 B (itf (tlI (decide (0 ≤ k)) lb)) ∧ Bk wx g 48 (ch8 (x, hdI (decide (0 ≤ k)) lb)).toArray ∧ Below wr.heap.size wr wx

set_option maxRecDepth 20000 in
set_option maxHeartbeats 4000000 in
theorem xdiff_any (LA LB : List It) (A B : Option Addr) (n c m d : Nat) (hn : LA.length = n) (hm : LB.length = m) (hl : n ≤ 400000) (hlm : m ≤ 400000) (hnc : n ≤ c) (hcm : c ≤ maxLen) (hmd : m ≤ d) (hdm : d ≤ maxLen) (D : List (It × It)) (hD : diffI LA LB = D) (w : World) (hr : Rd w A (itf LA)) (hs : Rd w B (itf LB)) :
    Calls Try.prog 18 #[.agg #[.slice A n c], .agg #[.slice B m d]] w (ChE w D) := by
  have mixed : Try.prog.follows Departure.mixedOrders = true := by kernel_rfl
  obtain ⟨w2, hw2⟩ : ∃ w2, (w.alloc (.cells #[.slice A n c] 25)).alloc (.cells #[.slice B m d] 25) = w2 := ⟨_, rfl⟩
  have hb2 : Below w.heap.size w w2 := by rw [← hw2]; exact ((Below.refl _ w).alloc (Nat.le_refl _) _).alloc (by simp only [World.size_alloc]; omega) _
  have hk0 : Bk w2 w.heap.size 25 #[.slice A n c] := by rw [← hw2]; exact (Bk.new w _ _).alloc _
  have hk1 : Bk w2 (w.heap.size + 1) 25 #[.slice B m d] := by
    rw [← hw2]
    have := Bk.new (w.alloc (.cells #[.slice A n c] 25)) 25 #[.slice B m d]
    rwa [World.size_alloc] at this
  have hs2 : w2.heap.size = w.heap.size + 2 := by rw [← hw2]; simp
  have x0 : ∀ k, (w2.drewN k).cell? ⟨w.heap.size, 0, none⟩ = some (.slice A n c) := fun k => hk0.cell_ 0 (.slice A n c) rfl
  have y0 : ∀ k, (w2.drewN k).cell? ⟨w.heap.size + 1, 0, none⟩ = some (.slice B m d) := fun k => hk1.cell_ 0 (.slice B m d) rfl
  have HL := Lib.hid (And.intro hn (And.intro hm hD))
  have H2 := Lib.hid (And.intro hb2 (And.intro hs2 (And.intro (hr.below hb2) (hs.below hb2))))
  have HW2 := Lib.hid hw2
  clear hn hm hD hr hs hb2 hk0 hk1 hs2 hw2
  go_enter Try.func18, Try.ntmps18
  go_wp2_with fail
  rw [HW2.out]
  clear HW2
  go_quiet (fail)
  have hbq : Below w2.heap.size w2 (w2.drewN nq) := below_dnS (Below.refl _ _) nq
  have H3 := Lib.hid (And.intro (bl H2.out.1 hbq) (And.intro (H2.out.2.2.1.below hbq) (H2.out.2.2.2.below hbq)))
  have HS3 := Lib.hid (And.intro (show (w2.drewN nq).heap.size = w.heap.size + 2 from H2.out.2.1) trivial)
  clear x0 y0 hbq
  generalize w2.drewN nq = w3 at *
  go_wp2_with fail
  go_loopw [5, 6, 7] (fun vo va vb wr => ∃ (la lb : List It) (A1 B1 : Option Addr) (n1 c1 m1 d1 kk : Nat) (D1 : List (It × It)), va = .slice A1 n1 c1 ∧ vb = .slice B1 m1 d1 ∧ n1 ≤ c1 ∧ c1 ≤ maxLen ∧ m1 ≤ d1 ∧ d1 ≤ maxLen ∧ kk + n1 + m1 ≤ n + m ∧ Hid (la.length = n1 ∧ lb.length = m1 ∧ D1.length = kk) ∧ Hid (D = D1 ++ diffI la lb ∧ True) ∧ Hid (Rd w3 A1 (itf la) ∧ Rd w3 B1 (itf lb)) ∧ Hid (wr.ownsRow w3.heap.size 48 8 vo kk (chf D1)) ∧ Hid (Below w3.heap.size w3 wr)) (fun _ va vb => fun _ => nOfS va + nOfS vb)
  case atStart => exact ⟨LA, LB, A, B, n, c, m, d, 0, [], rfl, rfl, hnc, hcm, hmd, hdm, by omega, Lib.hid ⟨HL.out.1, HL.out.2.1, rfl⟩, Lib.hid ⟨HL.out.2.2.symm, trivial⟩, Lib.hid H3.out.2, Lib.hid ⟨rfl, Or.inl ⟨rfl, rfl⟩⟩, Lib.hid (Below.refl _ _)⟩
  case round =>
    obtain ⟨la, lb, A1, B1, n1, c1, m1, d1, kk, D1, rfl, rfl, hnc1, hcm1, hmd1, hdm1, hk, HN, HD, HR, HO, HB⟩ := hrel
    by_cases hend : n1 = 0 ∧ m1 = 0
    · obtain ⟨rfl, rfl⟩ := hend
      go_wp2_with fail
      go_ret
      have e1 : la = [] := List.eq_nil_of_length_eq_zero HN.out.1
      have e2 : lb = [] := List.eq_nil_of_length_eq_zero HN.out.2.1
      have e3 : D = D1 := by rw [HD.out.1, e1, e2, diffI, List.append_nil]
      obtain ⟨_, B, d, rfl, h1, h2, h3⟩ := Sl.own HO.out
      rw [e3]
      exact ⟨B, d, by rw [HN.out.2.2]; rfl, by rw [HN.out.2.2]; exact h1, h2, h3, bl H3.out.1 HB.out⟩
    · have hne : n1 + m1 ≠ 0 := by omega
      clear hend
      have hor : ((0 : Int) < (n1 : Int)) ∨ (((n1 : Nat) : Int) = 0 ∧ (0 : Int) < (m1 : Int)) := by omega
      have HOR := Lib.hid hor
      clear hor
      go_upto_region 3 with (fail)
      go_cut [21] from 14 to 73 (fun v wx => v = .bool true ∧ wr = wx)
      case first =>
        rcases HOR.out with h | ⟨h, h2⟩
        · go_wp2_with fail
          go_meet
          exact ⟨rfl, rfl⟩
        · obtain rfl : n1 = 0 := by omega
          go_wp2_with fail
          go_meet
          exact ⟨by simp; omega, rfl⟩
      case rest =>
        obtain ⟨rfl, rfl⟩ := hcut
        go_upto_block 2 with (fail)
        go_cut [8] from 14 to 73 (fun vc wx => CutS wr la lb vc wx)
        case first =>
          by_cases hn0 : n1 = 0
          · have hsw : SwI la lb 1 := Or.inl ⟨List.eq_nil_of_length_eq_zero (by rw [HN.out.1]; exact hn0), fun e => hne (by have := HN.out.2.1; rw [e] at this; simp at this; omega), rfl⟩
            have HSW := Lib.hid hsw
            clear hsw
            subst hn0
            go_wp2_with fail
            go_meet
            exact ⟨1, rfl, HSW.out, Below.refl _ _⟩
          · have hn1 : ((n1 : Int) == 0) = false := by simp; omega
            have hla : la ≠ [] := fun e => hn0 (by rw [← HN.out.1, e]; rfl)
            by_cases hm0 : m1 = 0
            · have hsw : SwI la lb (-1) := Or.inr (.inl ⟨hla, List.eq_nil_of_length_eq_zero (by rw [HN.out.2.1]; exact hm0), rfl⟩)
              have HSW := Lib.hid hsw
              subst hm0
              clear hsw hla hn0
              go_wp2_with fail
              go_meet
              exact ⟨-1, rfl, HSW.out, Below.refl _ _⟩
            · have hm1 : ((m1 : Int) == 0) = false := by simp; omega
              have hlb : lb ≠ [] := fun e => hm0 (by rw [← HN.out.2.1, e]; rfl)
              obtain ⟨x, la', rfl⟩ := List.exists_cons_of_ne_nil hla
              obtain ⟨y, lb', rfl⟩ := List.exists_cons_of_ne_nil hlb
              obtain ⟨b1, o1, rfl, l1, q0, q1, q2, q3⟩ := (HR.out.1.below HB.out).head
              obtain ⟨b2, o2, rfl, l2, r0, r1, r2, r3⟩ := (HR.out.2.below HB.out).head
              obtain ⟨k, hk⟩ : ∃ k, cmpB x.p y.p = k := ⟨_, rfl⟩
              have hsw : SwI (x :: la') (y :: lb') k := Or.inr (.inr ⟨hla, hlb, hk.symm⟩)
              have HSW := Lib.hid (And.intro hsw hk)
              have q0' := fun q os => cell_grown (w := wr) l1 q0 q os
              have q1' := fun q os => cell_grown (w := wr) l1 q1 q os
              have q2' := fun q os => cell_grown (w := wr) l1 q2 q os
              have q3' := fun q os => cell_grown (w := wr) l1 q3 q os
              have r0' := fun q os => cell_grown (w := wr) l2 r0 q os
              have r1' := fun q os => cell_grown (w := wr) l2 r1 q os
              have r2' := fun q os => cell_grown (w := wr) l2 r2 q os
              have r3' := fun q os => cell_grown (w := wr) l2 r3 q os
              have hz1 : (0 : Int) < (n1 : Int) := by omega
              have hz2 : (0 : Int) < (m1 : Int) := by omega
              have hz3 : 0 < n1 := by omega
              have hz4 : 0 < m1 := by omega
              clear hsw hk hla hlb hn0 hm0 q0 q1 q2 q3 r0 r1 r2 r3 l1 l2
              go_wp2_with fail
              go_quiet_grown (first | (go_at_call 39; refine Calls.grown_of (cmpI_any x y k HSW.out.2 _)))
              go_wp2_with fail
              go_meet
              exact ⟨k, rfl, HSW.out.1, gr_bel _ _ _⟩
        case rest =>
          obtain ⟨k, rfl, hsw, hbs⟩ := hcut
          have hrs := And.intro ((HR.out.1.below HB.out).below hbs) ((HR.out.2.below HB.out).below hbs)
          have HSW := Lib.hid (And.intro hsw (And.intro hbs hrs))
          have hka : k ≤ 0 → la ≠ [] := hsw.needA
          have hkb : 0 ≤ k → lb ≠ [] := hsw.needB
          have HK := Lib.hid (And.intro hka hkb)
          clear hsw hbs hrs hka hkb
          obtain ⟨w5, rfl⟩ : ∃ w5, w5 = wc := ⟨_, rfl⟩
          obtain ⟨w6, hw6⟩ : ∃ w6, w5.alloc (.cells #[.string ⟨#[]⟩, .int .i64 0, .int .i64 0, .string ⟨#[]⟩, .string ⟨#[]⟩, .int .i64 0, .int .i64 0, .string ⟨#[]⟩] 48) = w6 := ⟨_, rfl⟩
          have hb6 : Below w5.heap.size w5 w6 := by rw [← hw6]; exact (Below.refl _ _).alloc (Nat.le_refl _) _
          have hk6 : Bk w6 w5.heap.size 48 (ch8 (default, default)).toArray := by rw [← hw6]; exact Bk.new _ _ _
          have H6 := Lib.hid (And.intro hb6 (And.intro (HSW.out.2.2.1.below hb6) (And.intro (HSW.out.2.2.2.below hb6) hk6)))
          have HW6 := Lib.hid hw6
          clear hb6 hk6 hw6
          go_upto_if 38 with (fail)
          rw [HW6.out]
          clear HW6
          go_cut [6] from 14 to 73 (fun va wx => CutA w3 w5 la k w5.heap.size va wx)
          case first =>
            by_cases hk0 : k ≤ 0
            · obtain ⟨x, la', rfl⟩ := List.exists_cons_of_ne_nil (HK.out.1 hk0)
              obtain ⟨b1, o1, rfl, l1, q0, q1, q2, q3⟩ := H6.out.2.1.head
              have z0 := H6.out.2.2.2.cell_ 0 (.string ⟨#[]⟩) rfl
              have z1 := H6.out.2.2.2.cell_ 1 (.int .i64 0) rfl
              have z2 := H6.out.2.2.2.cell_ 2 (.int .i64 0) rfl
              have z3 := H6.out.2.2.2.cell_ 3 (.string ⟨#[]⟩) rfl
              have f0 := H6.out.2.2.2.frozen 0
              have f1 := H6.out.2.2.2.frozen 1
              have f2 := H6.out.2.2.2.frozen 2
              have f3 := H6.out.2.2.2.frozen 3
              have hn0 : n1 = la'.length + 1 := HN.out.1.symm
              have hz3 : 0 < n1 := by omega
              have hz4 : 1 ≤ n1 := by omega
              have hz1 : (0 : Int) < (n1 : Int) := by omega
              have hz2 : (1 : Int) ≤ (n1 : Int) := by omega
              have HN0 := Lib.hid (And.intro hn0 trivial)
              clear hn0 l1
              have HB4 : Hid (∀ v0 v1 v2 v3, Below w5.heap.size w5 ((((w6.setCell ⟨w5.heap.size, 0, none⟩ v0).setCell ⟨w5.heap.size, 1, none⟩ v1).setCell ⟨w5.heap.size, 2, none⟩ v2).setCell ⟨w5.heap.size, 3, none⟩ v3).drew) := Lib.hid fun v0 v1 v2 v3 => (ke H6.out.1 w5.heap.size (Nat.le_refl _) v0 v1 v2 v3).drew
              have HK0 := Lib.hid (decide_eq_true hk0)
              by_cases hc1 : c1 = 1
              · go_wp2_with fail
                go_region
                go_wp2_with fail
                go_meet
                have hb := HB4.out (.string x.p) (.int .i64 x.id) (.int .i64 x.sz) (.string x.sm)
                have hl0 : la' = [] := List.eq_nil_of_length_eq_zero (by have := HN0.out.1; omega)
                refine ⟨some ⟨b1, o1, none⟩, 0, ?_, ?_, by unfold maxLen; omega, ?_, ?_, hb⟩
                · rw [HK0.out, HN0.out.1]; rfl
                · rw [HK0.out, hl0]; exact Nat.le_refl _
                · rw [HK0.out, hl0]; exact Rd.nil _ _
                · rw [HK0.out]
                  exact (H6.out.2.2.2.fourA x).drew
              · go_wp2_with fail
                go_region
                go_wp2_with fail
                go_meet
                have hb := HB4.out (.string x.p) (.int .i64 x.id) (.int .i64 x.sz) (.string x.sm)
                refine ⟨some ⟨b1, o1 + 4, none⟩, c1 - 1, ?_, ?_, by omega, ?_, ?_, hb⟩
                · rw [HK0.out, HN0.out.1]; rfl
                · rw [HK0.out]; show la'.length ≤ _; have := HN0.out.1; omega
                · rw [HK0.out]; exact HR.out.1.tailI
                · rw [HK0.out]
                  exact (H6.out.2.2.2.fourA x).drew
            · have HK0 := Lib.hid (decide_eq_false hk0)
              go_wp2_with fail
              go_meet
              exact ⟨A1, c1, by rw [HK0.out, ← HN.out.1]; rfl, by rw [HK0.out]; show la.length ≤ _; rw [HN.out.1]; exact hnc1, hcm1, by rw [HK0.out]; exact HR.out.1, by rw [HK0.out]; exact H6.out.2.2.2, H6.out.1⟩
          case rest =>
            obtain ⟨w7, rfl⟩ : ∃ w7, w7 = wc := ⟨_, rfl⟩
            obtain ⟨A2, c2, rfl, hnc2, hcm2, hrd2, hbk7, hb7⟩ := hcut
            obtain ⟨x, hx⟩ : ∃ x, hdI (decide (k ≤ 0)) la = x := ⟨_, rfl⟩
            obtain ⟨la2, hla2⟩ : ∃ la2, tlI (decide (k ≤ 0)) la = la2 := ⟨_, rfl⟩
            rw [hla2] at hnc2 hrd2
            rw [hla2]
            rw [hx] at hbk7
            obtain ⟨n2, hn2⟩ : ∃ n2, la2.length = n2 := ⟨_, rfl⟩
            rw [hn2] at hnc2 ⊢
            have H7 := Lib.hid (And.intro hrd2 (And.intro hbk7 (And.intro hb7 (And.intro (HSW.out.2.2.2.below hb7) (And.intro hx (And.intro hla2 hn2))))))
            clear H6 hrd2 hbk7 hb7 hx hla2 hn2
            go_upto_if 46 with (fail)
            go_cut [7] from 14 to 73 (fun vb wx => CutB w3 w5 lb k x w5.heap.size vb wx)
            case first =>
              by_cases hk0 : 0 ≤ k
              · obtain ⟨y, lb', rfl⟩ := List.exists_cons_of_ne_nil (HK.out.2 hk0)
                obtain ⟨b1, o1, rfl, l1, q0, q1, q2, q3⟩ := H7.out.2.2.2.1.head
                have z0 := H7.out.2.1.cell_ 4 (.string ⟨#[]⟩) rfl
                have z1 := H7.out.2.1.cell_ 5 (.int .i64 0) rfl
                have z2 := H7.out.2.1.cell_ 6 (.int .i64 0) rfl
                have z3 := H7.out.2.1.cell_ 7 (.string ⟨#[]⟩) rfl
                have f0 := H7.out.2.1.frozen 4
                have f1 := H7.out.2.1.frozen 5
                have f2 := H7.out.2.1.frozen 6
                have f3 := H7.out.2.1.frozen 7
                have hn0 : m1 = lb'.length + 1 := HN.out.2.1.symm
                have hz3 : 0 < m1 := by omega
                have hz4 : 1 ≤ m1 := by omega
                have hz1 : (0 : Int) < (m1 : Int) := by omega
                have hz2 : (1 : Int) ≤ (m1 : Int) := by omega
                have HN0 := Lib.hid (And.intro hn0 trivial)
                clear hn0 l1
                have HB4 : Hid (∀ v0 v1 v2 v3, Below w5.heap.size w5 ((((w7.setCell ⟨w5.heap.size, 4, none⟩ v0).setCell ⟨w5.heap.size, 5, none⟩ v1).setCell ⟨w5.heap.size, 6, none⟩ v2).setCell ⟨w5.heap.size, 7, none⟩ v3).drew) := Lib.hid fun v0 v1 v2 v3 => (ke8 H7.out.2.2.1 w5.heap.size (Nat.le_refl _) v0 v1 v2 v3).drew
                have HK0 := Lib.hid (decide_eq_true hk0)
                by_cases hc1 : d1 = 1
                · go_wp2_with fail
                  go_region
                  go_wp2_with fail
                  go_meet
                  have hb := HB4.out (.string y.p) (.int .i64 y.id) (.int .i64 y.sz) (.string y.sm)
                  have hl0 : lb' = [] := List.eq_nil_of_length_eq_zero (by have := HN0.out.1; omega)
                  refine ⟨some ⟨b1, o1, none⟩, 0, ?_, ?_, by unfold maxLen; omega, ?_, ?_, hb⟩
                  · rw [HK0.out, HN0.out.1]; rfl
                  · rw [HK0.out, hl0]; exact Nat.le_refl _
                  · rw [HK0.out, hl0]; exact Rd.nil _ _
                  · rw [HK0.out]
                    exact (H7.out.2.1.fourB y).drew
                · go_wp2_with fail
                  go_region
                  go_wp2_with fail
                  go_meet
                  have hb := HB4.out (.string y.p) (.int .i64 y.id) (.int .i64 y.sz) (.string y.sm)
                  refine ⟨some ⟨b1, o1 + 4, none⟩, d1 - 1, ?_, ?_, by omega, ?_, ?_, hb⟩
                  · rw [HK0.out, HN0.out.1]; rfl
                  · rw [HK0.out]; show lb'.length ≤ _; have := HN0.out.1; omega
                  · rw [HK0.out]; exact HR.out.2.tailI
                  · rw [HK0.out]
                    exact (H7.out.2.1.fourB y).drew
              · have HK0 := Lib.hid (decide_eq_false hk0)
                go_wp2_with fail
                go_meet
                exact ⟨B1, d1, by rw [HK0.out, ← HN.out.2.1]; rfl, by rw [HK0.out]; show lb.length ≤ _; rw [HN.out.2.1]; exact hmd1, hdm1, by rw [HK0.out]; exact HR.out.2, by rw [HK0.out]; exact H7.out.2.1, H7.out.2.2.1⟩
            case rest =>
              obtain ⟨w8, rfl⟩ : ∃ w8, w8 = wc := ⟨_, rfl⟩
              obtain ⟨B2, d2, rfl, hmd2, hdm2, hrd2, hbk8, hb8⟩ := hcut
              obtain ⟨y, hy⟩ : ∃ y, hdI (decide (0 ≤ k)) lb = y := ⟨_, rfl⟩
              obtain ⟨lb2, hlb2⟩ : ∃ lb2, tlI (decide (0 ≤ k)) lb = lb2 := ⟨_, rfl⟩
              have hlaw := HSW.out.1.law
              have hless := HSW.out.1.less
              rw [hlb2] at hmd2 hrd2 hlaw hless
              rw [hlb2]
              rw [hy] at hbk8 hlaw
              rw [H7.out.2.2.2.2.1, H7.out.2.2.2.2.2.1] at hlaw
              rw [H7.out.2.2.2.2.2.1, HN.out.1, HN.out.2.1, H7.out.2.2.2.2.2.2] at hless
              obtain ⟨m2, hm2⟩ : ∃ m2, lb2.length = m2 := ⟨_, rfl⟩
              rw [hm2] at hmd2 hless ⊢
              have hbr : Below w3.heap.size w3 w8 := HB.out.trans ((HSW.out.2.1.trans (hb8.mono HSW.out.2.1.size)).mono HB.out.size)
              have ho8 : w8.ownsRow w3.heap.size 48 8 u5 kk (chf D1) := own_belowI HO.out (HSW.out.2.1.trans (hb8.mono HSW.out.2.1.size))
              have hra := H7.out.1
              have hrb := hrd2
              have x0 := hbk8.cell_ 0 (.string x.p) rfl
              have x1 := hbk8.cell_ 1 (.int .i64 x.id) rfl
              have y0 := hbk8.cell_ 4 (.string y.p) rfl
              have y1 := hbk8.cell_ 5 (.int .i64 y.id) rfl
              have x2 := hbk8.cell_ 2 (.int .i64 x.sz) rfl
              have x3 := hbk8.cell_ 3 (.string x.sm) rfl
              have y2 := hbk8.cell_ 6 (.int .i64 y.sz) rfl
              have y3 := hbk8.cell_ 7 (.string y.sm) rfl
              have hsz8 : w3.heap.size ≤ w8.heap.size := hbr.size
              have H8 := Lib.hid (And.intro hbr (And.intro ho8 (And.intro hra (And.intro hrb (And.intro hbk8 (And.intro hlaw (And.intro hm2 hsz8)))))))
              clear hy hlb2 hlaw hm2 hbr ho8 hra hrb hrd2 hb8 hsz8 HK HSW
              by_cases hsm : x.sm = y.sm
              · have e0 : (x.sm.toList == y.sm.toList) = true := by rw [hsm]; simp
                have HSM := Lib.hid hsm
                clear hsm
                by_cases hsz : x.sz = y.sz
                · have hci : Lib.compareInt x.sz y.sz = 0 := by rw [hsz]; unfold Lib.compareInt; simp
                  have HSZ := Lib.hid (And.intro hsz hci)
                  clear hsz hci
                  go_wp2_with (go_at_call 43; refine (Try.cmp_Compare_int x.sz y.sz _).mono ?_; rw [HSZ.out.2]; rintro e w9 ⟨rfl, rfl⟩)
                  have e1 : emI x y = [] := by unfold emI; exact if_pos ⟨HSM.out, HSZ.out.1⟩
                  have hls := H8.out.2.2.2.2.2.1
                  rw [e1, List.nil_append] at hls
                  exact ⟨⟨la2, lb2, A2, B2, n2, c2, m2, d2, kk, D1, rfl, rfl, hnc2, hcm2, hmd2, hdm2, by omega, Lib.hid ⟨H7.out.2.2.2.2.2.2, H8.out.2.2.2.2.2.2.1, HN.out.2.2⟩, Lib.hid ⟨by rw [HD.out.1, hls], trivial⟩, Lib.hid ⟨H8.out.2.2.1, H8.out.2.2.2.1⟩, Lib.hid H8.out.2.1, Lib.hid H8.out.1⟩, by simp [nOfS]; omega⟩
                · have HNE := Lib.hid (show ¬ (x.sm = y.sm ∧ x.sz = y.sz) from fun h => hsz h.2)
                  obtain ⟨ci, hci⟩ : ∃ ci, Lib.compareInt x.sz y.sz = ci := ⟨_, rfl⟩
                  have hc0 : (ci == 0) = false := by
                    rw [← hci]
                    unfold Lib.compareInt
                    split
                    · rfl
                    · split
                      · rfl
                      · omega
                  have HSZ := Lib.hid (And.intro hci trivial)
                  have HONE := Lib.hid (ch8_one (x, y))
                  clear hsz hci
                  go_wp2_with (first
                    | (go_at_call 43; refine (Try.cmp_Compare_int x.sz y.sz _).mono ?_; rw [HSZ.out.1]; rintro e w9 ⟨rfl, rfl⟩)
                    | (at_builtin; go_must (refine wpList_append_new _ rfl (.tmp 70) (.tmp 72) 42 rfl w3.heap.size 48 8 96 el_chg _ _ _ H8.out.2.1 (by rfl) _ (by rfl) rfl HONE.out (by unfold maxLen; omega) (by omega) H8.out.2.2.2.2.2.2.2 ?_); intro v9 w9 ho9 hb9))
                  have hbx := H8.out.1.trans hb9
                  have e1 : emI x y = [(x, y)] := by unfold emI; exact if_neg (fun h => HNE.out h)
                  have hls := H8.out.2.2.2.2.2.1
                  rw [e1] at hls
                  exact ⟨⟨la2, lb2, A2, B2, n2, c2, m2, d2, kk + 1, D1 ++ [(x, y)], rfl, rfl, hnc2, hcm2, hmd2, hdm2, by omega, Lib.hid ⟨H7.out.2.2.2.2.2.2, H8.out.2.2.2.2.2.2.1, by rw [List.length_append, HN.out.2.2]; rfl⟩, Lib.hid ⟨by rw [HD.out.1, hls, List.append_assoc], trivial⟩, Lib.hid ⟨H8.out.2.2.1, H8.out.2.2.2.1⟩, Lib.hid (by rw [chf_app, chf_one]; exact ho9), Lib.hid hbx⟩, by simp [nOfS]; omega⟩
              · have HNE := Lib.hid (show ¬ (x.sm = y.sm ∧ x.sz = y.sz) from fun h => hsm h.1)
                have e0 : (x.sm.toList == y.sm.toList) = false := by rw [beq_strI]; exact decide_eq_false hsm
                have HONE := Lib.hid (ch8_one (x, y))
                clear hsm
                go_wp2_with (at_builtin; go_must (refine wpList_append_new _ rfl (.tmp 70) (.tmp 72) 42 rfl w3.heap.size 48 8 96 el_chg _ _ _ H8.out.2.1 (by rfl) _ (by rfl) rfl HONE.out (by unfold maxLen; omega) (by omega) H8.out.2.2.2.2.2.2.2 ?_); intro v9 w9 ho9 hb9)
                have hbx := H8.out.1.trans hb9
                have e1 : emI x y = [(x, y)] := by unfold emI; exact if_neg (fun h => HNE.out h)
                have hls := H8.out.2.2.2.2.2.1
                rw [e1] at hls
                exact ⟨⟨la2, lb2, A2, B2, n2, c2, m2, d2, kk + 1, D1 ++ [(x, y)], rfl, rfl, hnc2, hcm2, hmd2, hdm2, by omega, Lib.hid ⟨H7.out.2.2.2.2.2.2, H8.out.2.2.2.2.2.2.1, by rw [List.length_append, HN.out.2.2]; rfl⟩, Lib.hid ⟨by rw [HD.out.1, hls, List.append_assoc], trivial⟩, Lib.hid ⟨H8.out.2.2.1, H8.out.2.2.2.1⟩, Lib.hid (by rw [chf_app, chf_one]; exact ho9), Lib.hid hbx⟩, by simp [nOfS]; omega⟩
end Go.Proofs.Ytnhbkfefpkocaaa
