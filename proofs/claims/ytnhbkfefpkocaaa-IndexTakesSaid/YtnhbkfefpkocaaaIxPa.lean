/-
  An index's bytes, laid and taken: the plain law. No function in sight.
-/
import Derived.Test.YtnhbkfefpkocaaaP13
import Derived.Test.YtnhbkfefpkocaaaP15
namespace Go.Proofs.Ytnhbkfefpkocaaa
open Go.RowKit Go.Sort

/-- How many bytes two texts have in common at their beginning. -/
def comI : List UInt8 → List UInt8 → Nat
  | a :: l, b :: m => if a = b then comI l m + 1 else 0
  | _, _ => 0
theorem comI_le : ∀ (l m : List UInt8), comI l m ≤ l.length ∧ comI l m ≤ m.length
  | [], m => by simp [comI]
  | _ :: _, [] => by simp [comI]
  | a :: l, b :: m => by
    have := comI_le l m
    unfold comI
    split <;> simp only [List.length_cons] <;> omega
theorem comI_take : ∀ (l m : List UInt8), l.take (comI l m) = m.take (comI l m)
  | [], m => by simp [comI]
  | _ :: _, [] => by simp [comI]
  | a :: l, b :: m => by
    unfold comI
    split
    · next h => rw [List.take_succ_cons, List.take_succ_cons, h, comI_take l m]
    · rfl
theorem comI_back (l m : List UInt8) : l.take (comI l m) ++ m.drop (comI l m) = m := by rw [comI_take, List.take_append_drop]
/-- A walk that counts as long as both go on alike ends there. -/
theorem comI_stop : ∀ (l m : List UInt8) (n : Nat), n ≤ l.length → n ≤ m.length → l.take n = m.take n → (n = l.length ∨ n = m.length ∨ l[n]? ≠ m[n]?) → comI l m = n
  | [], m, n, h1, _, _, _ => by simp at h1; subst h1; simp [comI]
  | _ :: _, [], n, _, h2, _, _ => by simp at h2; subst h2; simp [comI]
  | a :: l, b :: m, 0, _, _, _, h4 => by
    rcases h4 with h | h | h
    · simp at h
    · simp at h
    · unfold comI
      rw [if_neg (fun e => h (by simp [e]))]
  | a :: l, b :: m, n + 1, h1, h2, h3, h4 => by
    rw [List.take_succ_cons, List.take_succ_cons] at h3
    obtain ⟨e1, e2⟩ := List.cons.inj h3
    have := comI_stop l m n (by simpa using h1) (by simpa using h2) e2 (by simpa using h4)
    unfold comI
    rw [if_pos e1, this]
/-- One item's bytes, behind a path. -/
def oneP (last : List UInt8) (x : It) : List UInt8 :=
  putN (clampN ((comI last x.p.toList : Nat) : Int)) ++ (putT (x.p.toList.drop (comI last x.p.toList)) ++ (putN (clampN x.id) ++ (putN (clampN x.sz) ++ x.sm.toList)))
def restP : List UInt8 → List It → List UInt8
  | _, [] => []
  | last, x :: l => oneP last x ++ restP x.p.toList l
/-- The last path. -/
def lastP : List UInt8 → List It → List UInt8
  | last, [] => last
  | _, x :: l => lastP x.p.toList l
def putX (L : List It) : List UInt8 := putN (clampN ((L.length : Nat) : Int)) ++ restP [] L
theorem restP_snoc : ∀ (last : List UInt8) (L : List It) (x : It), restP last (L ++ [x]) = restP last L ++ oneP (lastP last L) x
  | last, [], x => by simp [restP, lastP]
  | last, y :: L, x => by
    rw [List.cons_append, restP, restP, lastP, restP_snoc y.p.toList L x, List.append_assoc]
theorem lastP_snoc : ∀ (last : List UInt8) (L : List It) (x : It), lastP last (L ++ [x]) = x.p.toList
  | last, [], x => rfl
  | last, y :: L, x => by rw [List.cons_append, lastP, lastP_snoc]
theorem putT_lenL (s : List UInt8) : (putT s).length ≤ s.length + 9 := by
  unfold putT
  rw [List.length_append]
  have := putN_length (clampN (s.length : Int))
  omega
theorem oneP_len (last : List UInt8) (x : It) (h1 : x.p.size ≤ 1000000) (h2 : x.sm.size ≤ 1000000) : (oneP last x).length ≤ 3000000 := by
  unfold oneP
  simp only [List.length_append]
  have q1 := putN_length (clampN ((comI last x.p.toList : Nat) : Int))
  have q2 := putN_length (clampN x.id)
  have q3 := putN_length (clampN x.sz)
  have q4 := putT_lenL (x.p.toList.drop (comI last x.p.toList))
  rw [List.length_drop, size_toList] at q4
  rw [size_toList]
  omega

/-- One item's parts, taken: the fault, how many bytes are shared, the path's end, number, size, sum, what is left. -/
def oneT (s : List UInt8) : Int × Nat × List UInt8 × Nat × Nat × List UInt8 × List UInt8 :=
  match takeN s with
  | none => (2, 0, [], 0, 0, [], [])
  | some (c, s1) =>
    if (takeT s1 4096).2.2 ≠ 0 then ((takeT s1 4096).2.2, 0, [], 0, 0, [], []) else
    match takeN (takeT s1 4096).2.1 with
    | none => (2, 0, [], 0, 0, [], [])
    | some (id, s3) =>
      match takeN s3 with
      | none => (2, 0, [], 0, 0, [], [])
      | some (sz, s4) => if s4.length < 32 then (2, 0, [], 0, 0, [], []) else (0, c, (takeT s1 4096).1, id, sz, s4.take 32, s4.drop 32)
/-- An item that may be. -/
def MayI (y : It) : Prop := okP y.p = 0 ∧ 1 ≤ y.id ∧ y.id ≤ 4294967295 ∧ 0 ≤ y.sz ∧ y.sz ≤ 72057594037927935 ∧ y.sm.size = 32
def itX (last : List UInt8) (t : Int × Nat × List UInt8 × Nat × Nat × List UInt8 × List UInt8) : It := ⟨ofL (last.take t.2.1 ++ t.2.2.1), (t.2.2.2.1 : Int), (t.2.2.2.2.1 : Int), ofL t.2.2.2.2.2.1⟩
/-- Items taken one by one behind those that have been. -/
def tkI : Nat → List UInt8 → List UInt8 → List It → Int × List It × List UInt8
  | 0, _, s, acc => (0, acc, s)
  | n + 1, last, s, acc =>
    if (oneT s).1 ≠ 0 then ((oneT s).1, [], []) else
    if last.length < (oneT s).2.1 ∨ okP (itX last (oneT s)).p ≠ 0 ∨ (itX last (oneT s)).id < 1 ∨ 4294967295 < (itX last (oneT s)).id ∨ ¬ last < (itX last (oneT s)).p.toList then (2, [], []) else
    tkI n (itX last (oneT s)).p.toList (oneT s).2.2.2.2.2.2 (acc ++ [itX last (oneT s)])
def finX (s : List UInt8) (t : Int × List It × List UInt8) : Int × List It := if t.1 ≠ 0 then (t.1, []) else if putX t.2.1 ≠ s then (2, []) else (0, t.2.1)
def takeX (s : List UInt8) : Int × List It := match takeN s with
  | none => (2, [])
  | some (n, r) => if 512 < n then (3, []) else finX s (tkI n [] r [])
theorem okP_le {p : ByteArray} (h : okP p = 0) : p.toList ≠ [] ∧ p.toList.length ≤ 4096 := by
  unfold okP at h
  split at h
  · rename_i h1
    unfold pathOk at h1
    have := of_decide_eq_true h1
    exact ⟨this.1, this.2.1⟩
  · cases h
theorem oneT_put (last : List UInt8) (x : It) (r : List UInt8) (h : MayI x) (hl : last.length ≤ 100000000) :
    oneT (oneP last x ++ r) = (0, comI last x.p.toList, x.p.toList.drop (comI last x.p.toList), x.id.toNat, x.sz.toNat, x.sm.toList, r) := by
  obtain ⟨h1, h2, h3, h4, h5, h6⟩ := h
  have hp := okP_le h1
  have hc := comI_le last x.p.toList
  have e1 : clampN ((comI last x.p.toList : Nat) : Int) = comI last x.p.toList := by unfold clampN; omega
  have e2 : clampN x.id = x.id.toNat := by unfold clampN; omega
  have e3 : clampN x.sz = x.sz.toNat := by unfold clampN; omega
  have e6 : x.sm.toList.length = 32 := by rw [size_toList]; exact h6
  unfold oneT oneP
  rw [e1, e2, e3]
  simp only [List.append_assoc]
  rw [takeN_put _ _ (by omega)]
  simp only
  rw [takeT_of _ _ 4096 (by rw [List.length_drop]; omega) (by rw [List.length_drop]; omega)]
  simp only
  rw [if_neg (by simp), takeN_put _ _ (by omega)]
  simp only
  rw [takeN_put _ _ (by omega)]
  simp only
  rw [if_neg (by rw [List.length_append]; omega), ← e6, List.take_left, List.drop_left]
theorem itX_put (last : List UInt8) (x : It) (r : List UInt8) (h : MayI x) : itX last (0, comI last x.p.toList, x.p.toList.drop (comI last x.p.toList), x.id.toNat, x.sz.toNat, x.sm.toList, r) = x := by
  obtain ⟨h1, h2, h3, h4, h5, h6⟩ := h
  unfold itX
  simp only
  rw [comI_back, ofL_toList, ofL_toList]
  cases x
  simp only at h2 h4 ⊢
  congr 1
  · omega
  · omega
/-- In order behind a path, and each may be. -/
def OrdX : List UInt8 → List It → Prop
  | _, [] => True
  | last, x :: l => MayI x ∧ last < x.p.toList ∧ OrdX x.p.toList l
theorem OrdX.may : ∀ {last : List UInt8} {l : List It}, OrdX last l → ∀ x ∈ l, MayI x
  | _, [], _ => fun x hx => by cases hx
  | _, y :: l, h => fun x hx => by
    rcases List.mem_cons.1 hx with e | hx
    · rw [e]; exact h.1
    · exact OrdX.may h.2.2 x hx
theorem OrdX.snoc : ∀ {last : List UInt8} {l : List It} {x : It}, OrdX last l → MayI x → lastP last l < x.p.toList → OrdX last (l ++ [x])
  | _, [], _, _, h2, h3 => ⟨h2, h3, trivial⟩
  | _, _ :: _, _, h1, h2, h3 => ⟨h1.1, h1.2.1, OrdX.snoc h1.2.2 h2 h3⟩
theorem OrdX.of_srt : ∀ {last : List UInt8} {l : List It}, (∀ x ∈ l, MayI x) → SrtI l → (∀ x ∈ l, last < x.p.toList) → OrdX last l
  | _, [], _, _, _ => trivial
  | _, x :: l, h1, h2, h3 => ⟨h1 x (by simp), h3 x (by simp), OrdX.of_srt (fun y hy => h1 y (by simp [hy])) (List.pairwise_cons.1 h2).2 (List.pairwise_cons.1 h2).1⟩
theorem tkI_put : ∀ (l : List It) (last : List UInt8) (acc : List It) (r : List UInt8), OrdX last l → last.length ≤ 100000000 → tkI l.length last (restP last l ++ r) acc = (0, acc ++ l, r)
  | [], last, acc, r, _, _ => by simp [tkI, restP]
  | x :: l, last, acc, r, h, hl => by
    have hm := h.1
    have hc := comI_le last x.p.toList
    rw [List.length_cons, tkI, restP, List.append_assoc, oneT_put last x _ hm hl, itX_put last x _ hm]
    rw [if_neg (by simp), if_neg (by
      rintro (h1 | h1 | h1 | h1 | h1)
      · simp only at h1; omega
      · exact h1 hm.1
      · have := hm.2.1; omega
      · have := hm.2.2.1; omega
      · exact h1 h.2.1)]
    rw [tkI_put l _ _ _ h.2.2 (by have := (okP_le hm.1).2; omega), List.append_assoc]
    rfl
theorem oneT_good {s : List UInt8} (h : (oneT s).1 = 0) : (oneT s).2.2.2.2.1 ≤ 72057594037927935 ∧ (oneT s).2.2.2.2.2.1.length = 32 := by
  revert h
  unfold oneT
  split
  · intro h; cases h
  · split
    · next h1 => intro h; exact absurd h h1
    · split
      · intro h; cases h
      · split
        · intro h; cases h
        · next sz s4 h4 =>
          split
          · intro h; cases h
          · next h5 =>
            intro _
            refine ⟨(takeN_some _ _ _ h4).2, ?_⟩
            rw [List.length_take]
            omega
theorem tkI_only : ∀ (n : Nat) (last s : List UInt8) (acc : List It), (tkI n last s acc).1 = 0 → ∃ l, (tkI n last s acc).2.1 = acc ++ l ∧ l.length = n ∧ OrdX last l
  | 0, last, s, acc, _ => ⟨[], by simp [tkI], rfl, trivial⟩
  | n + 1, last, s, acc, h => by
    rw [tkI] at h ⊢
    by_cases h1 : (oneT s).1 ≠ 0
    · rw [if_pos h1] at h; exact absurd h h1
    · rw [if_neg h1] at h ⊢
      split at h
      · cases h
      · next h2 =>
        rw [if_neg h2]
        obtain ⟨l, e1, e2, e3⟩ := tkI_only n _ _ _ h
        have hg := oneT_good (Decidable.not_not.1 h1)
        have hm : MayI (itX last (oneT s)) := by
          refine ⟨Decidable.not_not.1 fun h => h2 (.inr (.inl h)), ?_, ?_, ?_, ?_, ?_⟩
          · have : ¬ (itX last (oneT s)).id < 1 := fun h => h2 (.inr (.inr (.inl h)))
            omega
          · have : ¬ 4294967295 < (itX last (oneT s)).id := fun h => h2 (.inr (.inr (.inr (.inl h))))
            omega
          · show (0 : Int) ≤ (((oneT s).2.2.2.2.1 : Nat) : Int)
            omega
          · show (((oneT s).2.2.2.2.1 : Nat) : Int) ≤ 72057594037927935
            have := hg.1
            omega
          · show (ofL (oneT s).2.2.2.2.2.1).size = 32
            rw [size_ofL]
            exact hg.2
        exact ⟨itX last (oneT s) :: l, by rw [e1, List.append_assoc]; rfl, by rw [List.length_cons, e2], hm, Classical.byContradiction fun h => h2 (.inr (.inr (.inr (.inr h)))), e3⟩
/-- What lies behind the items is nothing where their bytes are the whole. -/
theorem rest_nil {n : Nat} {s r : List UInt8} (hn : takeN s = some (n, r)) (h : (tkI n [] r []).1 = 0) (hp : putX (tkI n [] r []).2.1 = s) : (tkI n [] r []).2.2 = [] := by
  obtain ⟨l, e1, e2, e3⟩ := tkI_only n [] r [] h
  rw [List.nil_append] at e1
  rw [e1] at hp
  have hb := (takeN_some s n r hn).2
  rw [← hp] at hn
  unfold putX at hn
  rw [takeN_put _ _ (clampN_le _), e2] at hn
  have e4 := (Prod.mk.inj (Option.some.inj hn)).2
  have := tkI_put l [] [] [] e3 (by simp)
  rw [List.append_nil, e2, e4] at this
  rw [this]
theorem takeX_put {l : List It} (h : OrdX [] l) (hl : l.length ≤ 512) : takeX (putX l) = (0, l) := by
  have e : clampN ((l.length : Nat) : Int) = l.length := by unfold clampN; omega
  unfold takeX
  have e2 : takeN (putX l) = some (l.length, restP [] l) := by
    unfold putX
    rw [takeN_put _ _ (clampN_le _), e]
  have e3 := tkI_put l [] [] [] h (by simp)
  rw [List.append_nil, List.nil_append] at e3
  rw [e2]
  simp only
  rw [if_neg (by omega), e3]
  unfold finX
  rw [if_neg (by simp), if_neg (by simp)]
theorem takeX_cases (s : List UInt8) : ((takeX s).1 ≠ 0 ∧ (takeX s).2 = []) ∨ ((takeX s).1 = 0 ∧ putX (takeX s).2 = s ∧ OrdX [] (takeX s).2 ∧ (takeX s).2.length ≤ 512) := by
  unfold takeX
  cases hn : takeN s with
  | none => left; simp
  | some x =>
    obtain ⟨n, r⟩ := x
    simp only
    by_cases h1 : 512 < n
    · rw [if_pos h1]; left; simp
    · rw [if_neg h1]
      unfold finX
      by_cases h2 : (tkI n [] r []).1 ≠ 0
      · rw [if_pos h2]; left; exact ⟨h2, rfl⟩
      · rw [if_neg h2]
        by_cases h3 : putX (tkI n [] r []).2.1 ≠ s
        · rw [if_pos h3]; left; simp
        · rw [if_neg h3]
          obtain ⟨l, e1, e2, e3⟩ := tkI_only n [] r [] (Decidable.not_not.1 h2)
          rw [List.nil_append] at e1
          right
          exact ⟨rfl, Decidable.not_not.1 h3, by rw [e1]; exact e3, by rw [e1, e2]; omega⟩
end Go.Proofs.Ytnhbkfefpkocaaa
