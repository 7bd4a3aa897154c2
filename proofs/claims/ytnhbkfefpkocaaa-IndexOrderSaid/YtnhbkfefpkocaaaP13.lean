/-
  What With keeps. No function in sight. In whatever order archives with unlike numbers come: the plain law. No function in sight.
-/
import Derived.Test.YtnhbkfefpkocaaaIxK
import Derived.Test.YtnhbkfefpkocaaaP9
namespace Go.Proofs.Ytnhbkfefpkocaaa
open Go.RowKit Go.Sort

theorem sha_size (s : List UInt8) : (ofL (shaW s)).size = 32 := by
  rw [size_ofL]
  unfold shaW
  obtain ⟨a, b, c, d, e, f, g, i, h⟩ := eight (blocks_ok ((s.length + (padW s.length).length) / 64) startW (s ++ padW s.length) start_ok).1
  rw [h]
  rfl
/-- An item as With makes it. -/
def GoodI (y : It) : Prop := okP y.p = 0 ∧ y.p.size ≤ 20000 ∧ 1 ≤ y.id ∧ y.id ≤ 4294967295 ∧ 0 ≤ y.sz ∧ y.sz ≤ 20000 ∧ y.sm.size = 32
def GoodL (L : List It) (n : Nat) : Prop := SrtI L ∧ (∀ y ∈ L, GoodI y) ∧ L.length ≤ n
theorem withL_good (id : Int) (h1 : 1 ≤ id) (h2 : id ≤ 4294967295) : ∀ (fs : List Fl) (L : List It) (n : Nat), GoodL L n → (∀ f ∈ fs, f.1.size ≤ 20000 ∧ f.2.size ≤ 20000) → n + fs.length ≤ 512 →
    (((withL id fs L).2 = 0 ∧ GoodL (withL id fs L).1 (n + fs.length)) ∨ ((withL id fs L).2 = 5 ∧ (withL id fs L).1 = []))
  | [], L, n, hL, _, hn => by
    left
    have h512 : ¬ 512 < L.length := by have := hL.2.2; simp at hn; omega
    unfold withL
    rw [if_neg h512]
    exact ⟨rfl, hL.1, hL.2.1, by have := hL.2.2; simp; omega⟩
  | f :: fs, L, n, hL, hf, hn => by
    unfold withL
    by_cases hok : okP f.1 = 0
    · rw [if_pos hok]
      have hsz := hf f (by simp)
      have hgood : GoodI (itOf id f) := ⟨hok, hsz.1, h1, h2, by show (0 : Int) ≤ ((f.2.size : Nat) : Int); omega, by show ((f.2.size : Nat) : Int) ≤ 20000; omega, sha_size _⟩
      have hL2 : GoodL (putI L (itOf id f)) (n + 1) := by
        refine ⟨putI_srt _ _ hL.1, fun y hy => ?_, ?_⟩
        · rcases putI_mem _ _ hL.1 y hy with h | h
          · exact hL.2.1 y h
          · rw [h]; exact hgood
        · have := putI_len (itOf id f) L hL.1
          have := hL.2.2
          omega
      have ih := withL_good id h1 h2 fs (putI L (itOf id f)) (n + 1) hL2 (fun g hg => hf g (by simp [hg])) (by simp only [List.length_cons] at hn; omega)
      rw [show n + (f :: fs).length = n + 1 + fs.length by simp only [List.length_cons]; omega]
      exact ih
    · rw [if_neg hok]
      right
      have := okP_twoX f.1
      exact ⟨by omega, rfl⟩
theorem withI_good (id : Int) (fs : List Fl) (L : List It) (n : Nat) (hL : GoodL L n) (hf : ∀ f ∈ fs, f.1.size ≤ 20000 ∧ f.2.size ≤ 20000) (hn : n + fs.length ≤ 512) :
    (((withI L id fs).2 = 0 ∧ GoodL (withI L id fs).1 (n + fs.length)) ∨ ((withI L id fs).2 ≠ 0 ∧ (withI L id fs).1 = [])) := by
  unfold withI
  by_cases h : id < 1 ∨ 4294967295 < id
  · rw [if_pos h]
    right
    exact ⟨by simp, rfl⟩
  · rw [if_neg h]
    rcases withL_good id (by omega) (by omega) fs L n hL hf hn with h | ⟨h1, h2⟩
    · exact .inl h
    · exact .inr ⟨by omega, h2⟩
end Go.Proofs.Ytnhbkfefpkocaaa
namespace Go.Proofs.Ytnhbkfefpkocaaa
open Go.RowKit Go.Sort

def getI (L : List It) (p : ByteArray) : Option It := L.find? fun y => decide (y.p = p)
/-- Which of two files of one path stays. -/
def bestI (o : Option It) (x : It) : Option It := match o with | some y => if y.id ≤ x.id then some x else some y | none => some x
theorem getI_app (A B : List It) (p : ByteArray) : getI (A ++ B) p = (getI A p).or (getI B p) := List.find?_append
theorem getI_none {A : List It} {p : ByteArray} (h : ∀ y ∈ A, y.p ≠ p) : getI A p = none := List.find?_eq_none.2 fun y hy => by simpa using h y hy
theorem getI_cons_eq {x : It} {l : List It} {p : ByteArray} (h : x.p = p) : getI (x :: l) p = some x := by unfold getI; rw [List.find?_cons_of_pos (by simpa using h)]
theorem getI_cons_ne {x : It} {l : List It} {p : ByteArray} (h : x.p ≠ p) : getI (x :: l) p = getI l p := by unfold getI; rw [List.find?_cons_of_neg (by simpa using h)]
theorem lt_neO {a b : ByteArray} (h : a.toList < b.toList) : a ≠ b := fun e => by rw [e] at h; exact List.lt_irrefl _ h
theorem getI_put (L : List It) (x : It) (hS : SrtI L) (p : ByteArray) : getI (putI L x) p = if x.p = p then bestI (getI L p) x else getI L p := by
  obtain ⟨A, B, hL, _, hA, h⟩ := putI_split x L hS
  rcases h with ⟨_, y, B', rfl, hy, hB, _, _, hput⟩ | ⟨_, hB, hput⟩
  · rw [hput, hL]
    have hz : (if y.id ≤ x.id then x else y).p = x.p := by split <;> simp [hy]
    by_cases h : x.p = p
    · rw [if_pos h, getI_app, getI_app, getI_none (fun a ha => by rw [← h]; exact lt_neO (hA a ha)), getI_cons_eq (hz.trans h), getI_cons_eq (hy.trans h)]
      simp only [Option.none_or, bestI]
      split <;> rfl
    · rw [if_neg h, getI_app, getI_app, getI_cons_ne (fun e => h (hz.symm.trans e)), getI_cons_ne (fun e => h (hy.symm.trans e))]
  · rw [hput, hL]
    by_cases h : x.p = p
    · rw [if_pos h, getI_app, getI_app, getI_none (fun a ha => by rw [← h]; exact lt_neO (hA a ha)), getI_cons_eq h, getI_none (fun b hb => by rw [← h]; exact (lt_neO (hB b hb)).symm)]
      rfl
    · rw [if_neg h, getI_app, getI_app, getI_cons_ne h]
theorem getI_path {L : List It} {p : ByteArray} {y : It} (h : getI L p = some y) : y.p = p := by
  have := List.find?_some h
  simpa using this
/-- Sorted files are told by what each path gives. -/
theorem srt_ext : ∀ (L M : List It), SrtI L → SrtI M → (∀ p, getI L p = getI M p) → L = M
  | [], [], _, _, _ => rfl
  | x :: L, [], _, _, h => by
    have := h x.p
    rw [getI_cons_eq rfl] at this
    cases this
  | [], y :: M, _, _, h => by
    have := h y.p
    rw [getI_cons_eq rfl] at this
    cases this
  | x :: L, y :: M, hL, hM, h => by
    have hx := (srtI_cons.1 hL).1
    have hy := (srtI_cons.1 hM).1
    have e : x = y := by
      have h1 := h x.p
      have h2 := h y.p
      rw [getI_cons_eq rfl] at h1
      rw [getI_cons_eq (x := y) rfl] at h2
      by_cases hp : y.p = x.p
      · rw [getI_cons_eq hp] at h1
        exact Option.some.inj h1
      · exfalso
        rw [getI_cons_ne hp] at h1
        rw [getI_cons_ne (fun e => hp e.symm)] at h2
        have k1 := List.mem_of_find?_eq_some h1.symm
        have k2 := List.mem_of_find?_eq_some h2
        exact List.lt_irrefl _ (List.lt_trans (hx y k2) (hy x k1))
    subst e
    rw [srt_ext L M (srtI_cons.1 hL).2 (srtI_cons.1 hM).2 fun p => ?_]
    have hp := h p
    by_cases he : x.p = p
    · rw [getI_none fun z hz => by rw [← he]; exact (lt_neO (hx z hz)).symm, getI_none fun z hz => by rw [← he]; exact (lt_neO (hy z hz)).symm]
    · rw [getI_cons_ne he, getI_cons_ne he] at hp
      exact hp
/-- An archive's files put in. -/
def putAll (id : Int) (fs : List Fl) (L : List It) : List It := fs.foldl (fun L f => putI L (itOf id f)) L
theorem putAll_srt (id : Int) : ∀ (fs : List Fl) (L : List It), SrtI L → SrtI (putAll id fs L)
  | [], _, h => h
  | f :: fs, L, h => putAll_srt id fs _ (putI_srt _ _ h)
/-- The last file of a path. -/
def lastF (p : ByteArray) : List Fl → Option Fl
  | [] => none
  | f :: fs => match lastF p fs with | some g => some g | none => if f.1 = p then some f else none
def addI (id : Int) (o : Option It) : Option Fl → Option It
  | none => o
  | some f => bestI o (itOf id f)
theorem best_twice (o : Option It) (id : Int) (f g : Fl) : bestI (bestI o (itOf id f)) (itOf id g) = bestI o (itOf id g) := by
  cases o with
  | none => simp [bestI, itOf]
  | some y =>
    unfold bestI
    by_cases h : y.id ≤ id
    · have h1 : y.id ≤ (itOf id f).id := h
      have h2 : y.id ≤ (itOf id g).id := h
      simp only [if_pos h1, if_pos h2]
      rw [if_pos (show (itOf id f).id ≤ (itOf id g).id from Int.le_refl id)]
    · have h1 : ¬ y.id ≤ (itOf id f).id := h
      have h2 : ¬ y.id ≤ (itOf id g).id := h
      simp only [if_neg h1, if_neg h2]
theorem getI_all (id : Int) (p : ByteArray) : ∀ (fs : List Fl) (L : List It), SrtI L → getI (putAll id fs L) p = addI id (getI L p) (lastF p fs)
  | [], _, _ => rfl
  | f :: fs, L, h => by
    have ih := getI_all id p fs (putI L (itOf id f)) (putI_srt _ _ h)
    rw [getI_put _ _ h] at ih
    show getI (putAll id fs (putI L (itOf id f))) p = _
    rw [ih, lastF]
    have hp : (itOf id f).p = f.1 := rfl
    rw [hp]
    by_cases hf : f.1 = p
    · rw [if_pos hf]
      cases lastF p fs with
      | none => simp only [if_pos hf, addI]
      | some g => simp only [addI]; exact best_twice _ id f g
    · rw [if_neg hf]
      cases lastF p fs with
      | none => simp only [if_neg hf, addI]
      | some g => rfl
theorem best_comm (o : Option It) (x y : It) (h : x.id ≠ y.id) : bestI (bestI o x) y = bestI (bestI o y) x := by
  cases o with
  | none =>
    simp only [bestI]
    split <;> split <;> first | rfl | omega
  | some z =>
    simp only [bestI]
    by_cases h1 : z.id ≤ x.id
    · rw [if_pos h1]
      by_cases h2 : z.id ≤ y.id
      · rw [if_pos h2]
        simp only
        split <;> split <;> first | rfl | omega
      · rw [if_neg h2]
        simp only [if_pos h1]
        rw [if_neg (by omega)]
    · rw [if_neg h1]
      by_cases h2 : z.id ≤ y.id
      · rw [if_pos h2]
        simp only [if_pos h2]
        rw [if_neg (by omega)]
      · rw [if_neg h2]
        simp only [if_neg h1, if_neg h2]
theorem putAll_comm (id jd : Int) (h : id ≠ jd) (fs gs : List Fl) (L : List It) (hS : SrtI L) : putAll jd gs (putAll id fs L) = putAll id fs (putAll jd gs L) := by
  refine srt_ext _ _ (putAll_srt _ _ _ (putAll_srt _ _ _ hS)) (putAll_srt _ _ _ (putAll_srt _ _ _ hS)) fun p => ?_
  rw [getI_all _ _ _ _ (putAll_srt _ _ _ hS), getI_all _ _ _ _ hS, getI_all _ _ _ _ (putAll_srt _ _ _ hS), getI_all _ _ _ _ hS]
  cases lastF p fs with
  | none => rfl
  | some f =>
    cases lastF p gs with
    | none => rfl
    | some g => exact best_comm _ _ _ h
/-- Archives, one behind the other. -/
def allI (L : List It) (Q : List (Int × List Fl)) : List It := Q.foldl (fun L x => putAll x.1 x.2 L) L
theorem allI_srt : ∀ (Q : List (Int × List Fl)) (L : List It), SrtI L → SrtI (allI L Q)
  | [], _, h => h
  | x :: Q, L, h => allI_srt Q _ (putAll_srt _ _ _ h)
theorem allI_perm {Q R : List (Int × List Fl)} (h : Q.Perm R) : ∀ (L : List It), SrtI L → Q.Pairwise (fun x y => x.1 ≠ y.1) → allI L Q = allI L R := by
  induction h with
  | nil => intro L _ _; rfl
  | cons x _ ih =>
    intro L hS hp
    exact ih _ (putAll_srt _ _ _ hS) (List.pairwise_cons.1 hp).2
  | swap x y l =>
    intro L hS hp
    have hne : y.1 ≠ x.1 := (List.pairwise_cons.1 hp).1 x (by simp)
    show allI (putAll x.1 x.2 (putAll y.1 y.2 L)) l = allI (putAll y.1 y.2 (putAll x.1 x.2 L)) l
    rw [putAll_comm y.1 x.1 hne _ _ L hS]
  | trans h1 _ ih1 ih2 =>
    intro L hS hp
    rw [ih1 L hS hp]
    exact ih2 L hS ((h1.pairwise_iff (fun {a b} (h : a.1 ≠ b.1) => h.symm)).1 hp)
theorem withL_ok (id : Int) : ∀ (fs : List Fl) (L : List It), (withL id fs L).2 = 0 → (∀ f ∈ fs, okP f.1 = 0) ∧ (withL id fs L).1 = putAll id fs L
  | [], L, h => by
    unfold withL at h ⊢
    by_cases h1 : 512 < L.length
    · rw [if_pos h1] at h; cases h
    · rw [if_neg h1]; exact ⟨(fun f hf => by cases hf), rfl⟩
  | f :: fs, L, h => by
    unfold withL at h ⊢
    by_cases h1 : okP f.1 = 0
    · rw [if_pos h1] at h ⊢
      obtain ⟨k1, k2⟩ := withL_ok id fs _ h
      exact ⟨fun g hg => by
        rcases List.mem_cons.1 hg with e | hg
        · rw [e]; exact h1
        · exact k1 g hg, k2⟩
    · rw [if_neg h1] at h; exact absurd h h1
theorem withL_of (id : Int) : ∀ (fs : List Fl) (L : List It), SrtI L → (∀ f ∈ fs, okP f.1 = 0) → L.length + fs.length ≤ 512 → withL id fs L = (putAll id fs L, 0)
  | [], L, _, _, h => by
    unfold withL
    rw [if_neg (by simp at h; omega)]
    rfl
  | f :: fs, L, hS, hf, h => by
    unfold withL
    rw [if_pos (hf f (by simp))]
    exact withL_of id fs _ (putI_srt _ _ hS) (fun g hg => hf g (by simp [hg])) (by have := putI_len (itOf id f) L hS; simp only [List.length_cons] at h; omega)
/-- The archives' numbers and files: the i-th has the number 1 + i. -/
def numQ (P : List Pt) : List (Int × List Fl) := P.zipIdx.map fun x => (((1 + x.2 : Nat) : Int), x.1.fs)
theorem numQ_len (P : List Pt) : (numQ P).length = P.length := by simp [numQ]
theorem numQ_get (P : List Pt) (i : Nat) : (numQ P)[i]? = P[i]?.map fun x => (((1 + i : Nat) : Int), x.fs) := by
  unfold numQ
  rw [List.getElem?_map, List.getElem?_zipIdx]
  cases P[i]? <;> simp
theorem numQ_ne (P : List Pt) : (numQ P).Pairwise fun x y => x.1 ≠ y.1 := by
  rw [List.pairwise_iff_getElem]
  intro i j hi hj hij
  have h1 := numQ_get P i
  have h2 := numQ_get P j
  rw [List.getElem?_eq_getElem hi, List.getElem?_eq_getElem (by rw [numQ_len] at hi; exact hi)] at h1
  rw [List.getElem?_eq_getElem hj, List.getElem?_eq_getElem (by rw [numQ_len] at hj; exact hj)] at h2
  simp only [Option.map_some, Option.some.injEq] at h1 h2
  rw [h1, h2]
  simp only
  omega
/-- The archives from the t-th on, then those ahead of it. -/
def turnQ (Q : List (Int × List Fl)) (t : Nat) : List (Int × List Fl) := Q.drop (t % Q.length) ++ Q.take (t % Q.length)
theorem turnQ_perm (Q : List (Int × List Fl)) (t : Nat) : Q.Perm (turnQ Q t) := by
  unfold turnQ
  have := List.perm_append_comm (l₁ := Q.take (t % Q.length)) (l₂ := Q.drop (t % Q.length))
  rwa [List.take_append_drop] at this
theorem turnQ_len (Q : List (Int × List Fl)) (t : Nat) : (turnQ Q t).length = Q.length := (turnQ_perm Q t).length_eq.symm
theorem turnQ_get (Q : List (Int × List Fl)) (t j : Nat) (hj : j < Q.length) : (turnQ Q t)[j]? = Q[(j + t) % Q.length]? := by
  unfold turnQ
  have hm : t % Q.length < Q.length := Nat.mod_lt _ (by omega)
  have e : (j + t) % Q.length = (j + t % Q.length) % Q.length := by rw [Nat.add_mod_mod]
  rw [e]
  clear e
  generalize t % Q.length = r at *
  by_cases h : j < Q.length - r
  · rw [List.getElem?_append_left (by rw [List.length_drop]; exact h), List.getElem?_drop, Nat.mod_eq_of_lt (by omega : j + r < Q.length), Nat.add_comm]
  · have e2 : (j + r) % Q.length = j + r - Q.length := by rw [Nat.mod_eq_sub_mod (by omega), Nat.mod_eq_of_lt (by omega)]
    rw [List.getElem?_append_right (by rw [List.length_drop]; omega), List.length_drop, List.getElem?_take_of_lt (by omega), e2]
    congr 1
    omega
theorem allI_snoc (L : List It) (Q : List (Int × List Fl)) (x : Int × List Fl) : allI L (Q ++ [x]) = putAll x.1 x.2 (allI L Q) := by
  unfold allI
  rw [List.foldl_append]
  rfl
theorem allI_turn (Q : List (Int × List Fl)) (t : Nat) (h : Q.Pairwise fun x y => x.1 ≠ y.1) : allI [] (turnQ Q t) = allI [] Q := (allI_perm (turnQ_perm Q t) [] List.Pairwise.nil h).symm
end Go.Proofs.Ytnhbkfefpkocaaa
