/-
  A disk as plain data: what each deed does. No function in sight.
-/
import Derived.Test.YthjjdjhmaffoeaaGreatDoorBase
namespace Go.Proofs.YthjjdjhmaffoeaaGreatDoor
open Go.RowKit

/-- A sector's bytes, filled up with zeros. -/
def fillS (s : ByteArray) : ByteArray := ofL (s.toList ++ List.replicate (256 - s.size) 0)
theorem fillS_size {s : ByteArray} (h : s.size ≤ 256) : (fillS s).size = 256 := by
  unfold fillS
  rw [size_ofL, List.length_append, size_toList, List.length_replicate]
  omega
/-- What is synced, what a reader sees, which sectors are not synced, the fuse, whether the power is gone. -/
structure St where
  old : List ByteArray
  lst : List ByteArray
  fresh : List Bool
  fuse : Int
  dead : Bool
def St.new (n : Nat) : St := ⟨List.replicate n (fillS ⟨#[]⟩), List.replicate n (fillS ⟨#[]⟩), List.replicate n false, -1, false⟩
/-- A disk of so many sectors, whole in itself. -/
structure St.Ok (S : St) (n : Nat) : Prop where
  lo : S.old.length = n
  ll : S.lst.length = n
  lf : S.fresh.length = n
  same : ∀ i : Nat, S.fresh[i]? = some false → S.lst[i]? = S.old[i]?
  zo : ∀ s ∈ S.old, s.size = 256
  zl : ∀ s ∈ S.lst, s.size = 256
  fuse : -1 ≤ S.fuse
def St.may (S : St) (i : Int) : Int := if S.dead then 7 else if i < 0 ∨ (S.old.length : Int) ≤ i then 10 else 0
def St.rd (S : St) (i : Int) : ByteArray × Int := if S.may i = 0 then (S.lst[i.toNat]?.getD ⟨#[]⟩, 0) else (⟨#[]⟩, S.may i)
def burn (f : Int) : Int := max (f - 1) (-1)
def St.die (S : St) : St := { S with dead := true }
def St.wr (S : St) (i : Int) (s : ByteArray) : St × Int :=
  if S.may i ≠ 0 then (S, S.may i) else if 256 < s.size then (S, 1) else if S.fuse = 0 then (S.die, 7) else
  ({ S with lst := S.lst.set i.toNat (fillS s), fresh := S.fresh.set i.toNat true, fuse := burn S.fuse }, 0)
def St.sync (S : St) : St × Int :=
  if S.may 0 ≠ 0 then (S, S.may 0) else if S.fuse = 0 then (S.die, 7) else
  ({ S with old := S.lst, fresh := S.fresh.map fun _ => false, fuse := burn S.fuse }, 0)
def St.setFuse (S : St) (n : Int) : St := if S.dead then S else { S with fuse := max n (-1) }
/-- Those that are not synced, rising. -/
def unsF : List Bool → Nat → List Nat
  | [], _ => []
  | b :: l, i => if b then i :: unsF l (i + 1) else unsF l (i + 1)
def St.uns (S : St) : List Nat := unsF S.fresh 0
/-- What is kept behind a crash: the k-th of those that are not synced, if the k-th bit says so. -/
def kept (bit : Nat → Bool) : List Bool → List ByteArray → List ByteArray → Nat → List ByteArray
  | f :: fs, o :: os, l :: ls, k => if f then (if bit k then l else o) :: kept bit fs os ls (k + 1) else o :: kept bit fs os ls k
  | _, os, _, _ => os
def St.crash (S : St) (bit : Nat → Bool) : St :=
  ⟨kept bit S.fresh S.old S.lst 0, kept bit S.fresh S.old S.lst 0, S.fresh.map fun _ => false, -1, false⟩
theorem kept_len (bit : Nat → Bool) : ∀ (fs : List Bool) (os ls : List ByteArray) (k : Nat), (kept bit fs os ls k).length = os.length
  | [], _, _, _ => by unfold kept; rfl
  | _ :: _, [], _, _ => by unfold kept; rfl
  | _ :: _, _ :: _, [], _ => by unfold kept; rfl
  | f :: fs, o :: os, l :: ls, k => by
    unfold kept
    cases f
    · simp [kept_len bit fs os ls k]
    · simp [kept_len bit fs os ls (k + 1)]
theorem kept_size (bit : Nat → Bool) : ∀ (fs : List Bool) (os ls : List ByteArray) (k : Nat), (∀ s ∈ os, s.size = 256) → (∀ s ∈ ls, s.size = 256) → ∀ s ∈ kept bit fs os ls k, s.size = 256
  | [], _, _, _ => fun h _ => by unfold kept; exact h
  | _ :: _, [], _, _ => fun h _ => by unfold kept; exact h
  | _ :: _, _ :: _, [], _ => fun h _ => by unfold kept; exact h
  | f :: fs, o :: os, l :: ls, k => fun h h2 => by
    have ih := fun j => kept_size bit fs os ls j (fun s hs => h s (by simp [hs])) (fun s hs => h2 s (by simp [hs]))
    unfold kept
    intro s hs
    cases f
    · simp only [Bool.false_eq_true, if_false, List.mem_cons] at hs
      rcases hs with rfl | hs
      · exact h _ (by simp)
      · exact ih k s hs
    · simp only [if_true, List.mem_cons] at hs
      rcases hs with rfl | hs
      · split
        · exact h2 _ (by simp)
        · exact h _ (by simp)
      · exact ih _ s hs
theorem St.Ok.new (n : Nat) : (St.new n).Ok n where
  lo := by simp [St.new]
  ll := by simp [St.new]
  lf := by simp [St.new]
  same i _ := rfl
  zo s hs := by simp [St.new] at hs; rw [hs.2]; exact fillS_size (by decide)
  zl s hs := by simp [St.new] at hs; rw [hs.2]; exact fillS_size (by decide)
  fuse := by simp [St.new]
theorem St.Ok.die {S : St} {n : Nat} (h : S.Ok n) : S.die.Ok n := ⟨h.lo, h.ll, h.lf, h.same, h.zo, h.zl, h.fuse⟩
theorem burn_ge (f : Int) : -1 ≤ burn f := by unfold burn; omega
theorem St.Ok.wr {S : St} {n : Nat} (h : S.Ok n) (i : Int) (s : ByteArray) : (S.wr i s).1.Ok n := by
  unfold St.wr
  split
  · exact h
  · split
    · exact h
    · split
      · exact h.die
      · rename_i h1 h2 h3
        refine ⟨h.lo, by simp [h.ll], by simp [h.lf], fun j hj => ?_, h.zo, fun x hx => ?_, burn_ge _⟩
        · simp only at hj ⊢
          by_cases hji : i.toNat = j
          · subst hji
            by_cases hlt : i.toNat < S.fresh.length
            · rw [List.getElem?_set_self hlt] at hj; cases hj
            · rw [List.getElem?_eq_none (by simp; omega)] at hj; cases hj
          · rw [List.getElem?_set_ne hji] at hj
            rw [List.getElem?_set_ne hji]
            exact h.same j hj
        · simp only at hx
          rcases List.mem_or_eq_of_mem_set hx with hx | hx
          · exact h.zl x hx
          · rw [hx]; exact fillS_size (by omega)
theorem St.Ok.sync {S : St} {n : Nat} (h : S.Ok n) : S.sync.1.Ok n := by
  unfold St.sync
  split
  · exact h
  · split
    · exact h.die
    · exact ⟨h.ll, h.ll, by simp [h.lf], fun _ _ => rfl, h.zl, h.zl, burn_ge _⟩
theorem St.Ok.setFuse {S : St} {n : Nat} (h : S.Ok n) (k : Int) : (S.setFuse k).Ok n := by
  unfold St.setFuse
  split
  · exact h
  · exact ⟨h.lo, h.ll, h.lf, h.same, h.zo, h.zl, by simp only; omega⟩
theorem St.Ok.crash {S : St} {n : Nat} (h : S.Ok n) (bit : Nat → Bool) : (S.crash bit).Ok n :=
  ⟨by simp [St.crash, kept_len, h.lo], by simp [St.crash, kept_len, h.lo], by simp [St.crash, h.lf], fun _ _ => rfl, kept_size bit _ _ _ _ h.zo h.zl, kept_size bit _ _ _ _ h.zo h.zl, by simp [St.crash]⟩
/-- The sectors behind a crash, one by one. -/
theorem kept_get (bit : Nat → Bool) : ∀ (fs : List Bool) (os ls : List ByteArray) (k i : Nat), fs.length = os.length → ls.length = os.length →
    (kept bit fs os ls k)[i]? = if fs[i]? = some true ∧ bit (k + (fs.take i).countP id) = true then ls[i]? else os[i]?
  | [], os, ls, k, i, h, _ => by
    have : os = [] := List.eq_nil_of_length_eq_zero (by simpa using h.symm)
    subst this
    unfold kept; simp
  | _ :: _, [], _, _, _, h, _ => by simp at h
  | _ :: _, _ :: _, [], _, _, _, h => by simp at h
  | f :: fs, o :: os, l :: ls, k, i, h, h2 => by
    have ih := fun j t => kept_get bit fs os ls j t (by simpa using h) (by simpa using h2)
    unfold kept
    cases i with
    | zero => cases f <;> simp; split <;> simp_all
    | succ i =>
      cases f
      · simp only [Bool.false_eq_true, if_false, List.getElem?_cons_succ, List.take_succ_cons, List.countP_cons, id_eq, Nat.add_zero]
        exact ih k i
      · simp only [if_true, List.getElem?_cons_succ, List.take_succ_cons, List.countP_cons, id_eq]
        rw [ih (k + 1) i]
        simp only [Nat.add_assoc, Nat.add_comm 1]
end Go.Proofs.YthjjdjhmaffoeaaGreatDoor
