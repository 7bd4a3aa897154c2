/-
  The plain laws of DiskFuses and DiskKeeps. No function in sight.
-/
import Derived.Test.YthjjdjhmaffoeaaGreatDoorDkA
namespace Go.Proofs.YthjjdjhmaffoeaaGreatDoor
open Go.RowKit

theorem St.may_ok {S : St} {n : Nat} (h : S.Ok n) {i : Int} (h0 : 0 ≤ i) (h1 : i < n) : S.may i = if S.dead then 7 else 0 := by
  unfold St.may
  rw [h.lo, if_neg (show ¬ (i < 0 ∨ (n : Int) ≤ i) by omega)]
theorem St.may_out {S : St} {n : Nat} (h : S.Ok n) {i : Int} (h1 : i < 0 ∨ (n : Int) ≤ i) : S.may i = if S.dead then 7 else 10 := by
  unfold St.may
  rw [h.lo, if_pos h1]
theorem uns_len : ∀ (fs : List Bool) (j : Nat), (unsF fs j).length = fs.countP id
  | [], _ => rfl
  | f :: fs, j => by
    unfold unsF
    cases f <;> simp [uns_len fs (j + 1)]
theorem uns_ge : ∀ (fs : List Bool) (j : Nat), ∀ t ∈ unsF fs j, j ≤ t ∧ t < j + fs.length
  | [], _ => fun t ht => by cases ht
  | f :: fs, j => fun t ht => by
    unfold unsF at ht
    have ih := uns_ge fs (j + 1)
    cases f
    · simp only [Bool.false_eq_true, if_false] at ht
      have := ih t ht
      simp; omega
    · simp only [if_true, List.mem_cons] at ht
      rcases ht with rfl | ht
      · simp
      · have := ih t ht
        simp; omega
/-- The k-th of those that are not synced. -/
theorem uns_at : ∀ (fs : List Bool) (j i : Nat), fs[i]? = some true → (unsF fs j)[(fs.take i).countP id]? = some (j + i)
  | [], _, _ => fun h => by simp at h
  | f :: fs, j, 0 => fun h => by
    simp at h; subst h
    simp [unsF]
  | f :: fs, j, i + 1 => fun h => by
    have ih := uns_at fs (j + 1) i (by simpa using h)
    rw [show j + 1 + i = j + (i + 1) by omega] at ih
    unfold unsF
    cases f
    · simpa using ih
    · simpa using ih
theorem uns_not : ∀ (fs : List Bool) (j i : Nat), fs[i]? = some false → (unsF fs j)[(fs.take i).countP id]? ≠ some (j + i)
  | [], _, _ => fun h => by simp at h
  | f :: fs, j, 0 => fun h => by
    simp at h; subst h
    simp only [List.take_zero, List.countP_nil, Nat.add_zero]
    unfold unsF
    intro e
    have := uns_ge fs (j + 1) _ (List.mem_of_getElem? e)
    omega
  | f :: fs, j, i + 1 => fun h => by
    have ih := uns_not fs (j + 1) i (by simpa using h)
    rw [show j + 1 + i = j + (i + 1) by omega] at ih
    unfold unsF
    cases f
    · simpa using ih
    · simpa using ih

/-- A fuse of n, d of which are burnt. -/
def Fz (S : St) (n d : Nat) : Prop := S.Ok 4 ∧ (S.dead = false → (d : Int) + S.fuse = n ∧ 0 ≤ S.fuse) ∧ (S.dead = true → d = n)
theorem Fz.le {S : St} {n d : Nat} (h : Fz S n d) : d ≤ n := by
  cases hd : S.dead
  · have := h.2.1 hd; omega
  · have := h.2.2 hd; omega
theorem Fz.start (n : Nat) : Fz ((St.new 4).setFuse n) n 0 := by
  refine ⟨(St.Ok.new 4).setFuse _, fun _ => ?_, fun h => ?_⟩
  · unfold St.setFuse St.new; simp only [Bool.false_eq_true, if_false]; omega
  · unfold St.setFuse St.new at h; simp at h
theorem Fz.wr {S : St} {n d : Nat} (h : Fz S n d) {i : Int} (h0 : 0 ≤ i) (h1 : i < 4) {s : ByteArray} (hs : s.size ≤ 256) :
    ((S.wr i s).2 = 0 ∧ Fz (S.wr i s).1 n (d + 1)) ∨ ((S.wr i s).2 = 7 ∧ d = n ∧ (S.wr i s).1.dead = true ∧ Fz (S.wr i s).1 n d) := by
  have hok := h.1.wr i s
  have hm := St.may_ok h.1 h0 (by exact h1)
  cases hd : S.dead
  · have h2 := h.2.1 hd
    rw [hd] at hm
    by_cases hf : S.fuse = 0
    · right
      have e : S.wr i s = (S.die, 7) := by unfold St.wr; rw [hm, if_neg (by simp), if_neg (by omega), if_pos hf]
      rw [e] at hok ⊢
      exact ⟨rfl, by omega, rfl, hok, fun h => absurd (show S.die.dead = true from rfl) (by rw [h]; simp), fun _ => by omega⟩
    · left
      have e : S.wr i s = ({ S with lst := S.lst.set i.toNat (fillS s), fresh := S.fresh.set i.toNat true, fuse := burn S.fuse }, 0) := by unfold St.wr; rw [hm, if_neg (by simp), if_neg (by omega), if_neg hf]
      rw [e] at hok ⊢
      refine ⟨rfl, hok, fun _ => ?_, fun h => ?_⟩
      · simp only; unfold burn; omega
      · simp only [hd] at h; cases h
  · right
    rw [hd] at hm
    have e : S.wr i s = (S, 7) := by unfold St.wr; rw [hm]; simp
    rw [e]
    exact ⟨rfl, h.2.2 hd, hd, h⟩
theorem Fz.sync {S : St} {n d : Nat} (h : Fz S n d) :
    (S.sync.2 = 0 ∧ Fz S.sync.1 n (d + 1)) ∨ (S.sync.2 = 7 ∧ d = n ∧ S.sync.1.dead = true ∧ Fz S.sync.1 n d) := by
  have hok := h.1.sync
  have hm := St.may_ok h.1 (i := 0) (by omega) (by omega)
  cases hd : S.dead
  · have h2 := h.2.1 hd
    rw [hd] at hm
    by_cases hf : S.fuse = 0
    · right
      have e : S.sync = (S.die, 7) := by unfold St.sync; rw [hm, if_neg (by simp), if_pos hf]
      rw [e] at hok ⊢
      exact ⟨rfl, by omega, rfl, hok, fun h => absurd (show S.die.dead = true from rfl) (by rw [h]; simp), fun _ => by omega⟩
    · left
      have e : S.sync = ({ S with old := S.lst, fresh := S.fresh.map fun _ => false, fuse := burn S.fuse }, 0) := by unfold St.sync; rw [hm, if_neg (by simp), if_neg hf]
      rw [e] at hok ⊢
      refine ⟨rfl, hok, fun _ => ?_, fun h => ?_⟩
      · simp only; unfold burn; omega
      · simp only [hd] at h; cases h
  · right
    rw [hd] at hm
    have e : S.sync = (S, 7) := by unfold St.sync; rw [hm]; simp
    rw [e]
    exact ⟨rfl, h.2.2 hd, hd, h⟩
theorem Fz.rd {S : St} {n d : Nat} (h : Fz S n d) {i : Int} (h0 : 0 ≤ i) (h1 : i < 4) : (S.rd i).2 = if S.dead then 7 else 0 := by
  have hm := St.may_ok h.1 h0 (by exact h1)
  unfold St.rd
  rw [hm]
  cases S.dead <;> simp

/-- Behind any writes and syncs: what is synced, what was written last. -/
def Kp (S : St) (a b : List ByteArray) : Prop := S.Ok 6 ∧ S.dead = false ∧ S.fuse = -1 ∧ a = S.old ∧ b = S.lst
theorem Kp.wr {S : St} {a b : List ByteArray} (h : Kp S a b) {i : Int} (h0 : 0 ≤ i) (h1 : i < 6) (s : ByteArray) :
    ((S.wr i s).2 = 0 ∧ ((S.wr i s).1.rd i).2 = 0 ∧ Kp (S.wr i s).1 a (b.set i.toNat ((S.wr i s).1.rd i).1)) ∨ ((S.wr i s).2 = 1 ∧ Kp (S.wr i s).1 a b) := by
  obtain ⟨h2, h3, h4, rfl, rfl⟩ := h
  have hok := h2.wr i s
  have hm := St.may_ok h2 h0 (by exact h1)
  rw [h3] at hm
  by_cases hs : 256 < s.size
  · right
    have e : S.wr i s = (S, 1) := by unfold St.wr; rw [hm, if_neg (by simp), if_pos hs]
    rw [e]
    exact ⟨rfl, h2, h3, h4, rfl, rfl⟩
  · left
    have e : S.wr i s = ({ S with lst := S.lst.set i.toNat (fillS s), fresh := S.fresh.set i.toNat true, fuse := burn S.fuse }, 0) := by unfold St.wr; rw [hm, if_neg (by simp), if_neg hs, if_neg (by omega)]
    rw [e] at hok ⊢
    have hm2 : ({ S with lst := S.lst.set i.toNat (fillS s), fresh := S.fresh.set i.toNat true, fuse := burn S.fuse } : St).may i = 0 := by
      rw [St.may_ok hok h0 (by exact h1), if_neg (show ¬ S.dead = true by rw [h3]; simp)]
    simp only at hok ⊢
    have hr : ({ S with lst := S.lst.set i.toNat (fillS s), fresh := S.fresh.set i.toNat true, fuse := burn S.fuse } : St).rd i = (fillS s, 0) := by
      unfold St.rd
      rw [hm2, if_pos rfl]
      simp only
      rw [List.getElem?_set_self (by rw [h2.ll]; omega)]
      rfl
    rw [hr]
    exact ⟨trivial, rfl, hok, h3, by simp only; unfold burn; omega, rfl, rfl⟩
theorem Kp.sync {S : St} {a b : List ByteArray} (h : Kp S a b) : S.sync.2 = 0 ∧ Kp S.sync.1 b b := by
  obtain ⟨h2, h3, h4, rfl, rfl⟩ := h
  have hok := h2.sync
  have hm := St.may_ok h2 (i := 0) (by omega) (by omega)
  rw [h3] at hm
  have e : S.sync = ({ S with old := S.lst, fresh := S.fresh.map fun _ => false, fuse := burn S.fuse }, 0) := by unfold St.sync; rw [hm, if_neg (by simp), if_neg (by omega)]
  rw [e] at hok ⊢
  exact ⟨rfl, hok, h3, by simp only; unfold burn; omega, rfl, rfl⟩
/-- A sector behind the crash. -/
theorem Kp.crash {S : St} {a b : List ByteArray} (h : Kp S a b) (bit : Nat → Bool) {i : Nat} (hi : i < 6) :
    (S.crash bit).rd i = ((if S.fresh[i]? = some true ∧ bit ((S.fresh.take i).countP id) = true then b[i]? else a[i]?).getD ⟨#[]⟩, 0) ∧ (S.fresh[i]? = some false → b[i]? = a[i]?) := by
  obtain ⟨h2, h3, h4, rfl, rfl⟩ := h
  have hok := h2.crash bit
  have hm := St.may_ok hok (i := (i : Int)) (by omega) (by omega)
  refine ⟨?_, h2.same i⟩
  unfold St.rd
  rw [hm, if_pos (by rfl)]
  have hg := kept_get bit S.fresh S.old S.lst 0 i (by rw [h2.lf, h2.lo]) (by rw [h2.ll, h2.lo])
  rw [Nat.zero_add] at hg
  show ((kept bit S.fresh S.old S.lst 0)[(i : Int).toNat]?.getD ⟨#[]⟩, (0 : Int)) = _
  rw [Int.toNat_natCast, hg]
end Go.Proofs.YthjjdjhmaffoeaaGreatDoor
