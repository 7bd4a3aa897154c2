/-
  Rows of texts in memory; masks of ints. No function in sight.
-/
import Derived.Test.YthjjdjhmaffoeaaGreatDoorDkG
import Derived.Maps.AppendAt
namespace Go.Proofs.YthjjdjhmaffoeaaGreatDoor
open Go.RowKit Go.Maps

theorem bitsand_mask (n : Int) (k : Nat) (hk : k ≤ 62) (M : Int) (hM : M = ((2 ^ k - 1 : Nat) : Int)) : bits .and .i64 n M = n % ((2 ^ k : Nat) : Int) := by
  subst hM
  have h64 : 2 ^ k ≤ 2 ^ 62 := Nat.pow_le_pow_right (by omega) hk
  have hd : (2 ^ k) ∣ 18446744073709551616 := by
    rw [show (18446744073709551616 : Nat) = 2 ^ 64 from rfl]
    exact Nat.pow_dvd_pow 2 (by omega)
  have hp : 0 < 2 ^ k := Nat.pow_pos (by omega)
  show IntKind.i64.wrap ((BitVec.ofInt 64 n &&& BitVec.ofInt 64 ((2 ^ k - 1 : Nat) : Int)).toNat : Int) = _
  have h1 : (BitVec.ofInt 64 ((2 ^ k - 1 : Nat) : Int)).toNat = 2 ^ k - 1 := by
    rw [BitVec.toNat_ofInt]
    generalize 2 ^ k = q at *
    simp only [Nat.reducePow] at *
    omega
  rw [BitVec.toNat_and, h1, Nat.and_two_pow_sub_one_eq_mod, BitVec.toNat_ofInt, IntKind.wrap_i64]
  have h2 : (((n % ((2 ^ 64 : Nat) : Int)).toNat % 2 ^ k : Nat) : Int) = n % ((2 ^ k : Nat) : Int) := by
    rw [Int.natCast_emod, Int.toNat_of_nonneg (Int.emod_nonneg _ (by decide))]
    exact Int.emod_emod_of_dvd n (Int.natCast_dvd_natCast.2 hd)
  rw [h2]
  generalize 2 ^ k = q at *
  have h3 := Int.emod_nonneg n (show (q : Int) ≠ 0 by omega)
  have h4 := Int.emod_lt_of_pos n (show (0 : Int) < q by omega)
  simp only [Nat.reducePow] at h64
  omega
theorem Rd.keep3 {w w' : World} {A : Option Addr} {xs : List Value} {b g m : Nat} (h : Rd w A xs) (hk : Keep3 b g m w w') (ho : ∀ ad, A = some ad → ad.block ≠ b ∧ ad.block ≠ g ∧ ad.block ≠ m) : Rd w' A xs := fun hn => by
  obtain ⟨bb, o, e, hc⟩ := h hn
  obtain ⟨h1, h2, h3⟩ := ho _ e
  refine ⟨bb, o, e, fun j u hj => ?_⟩
  have h4 := hc j u hj
  have hlt := World.block_lt_of_cell? w _ h4
  have h5 := hk.2.2.2.2 bb hlt h1 h2 h3
  simp only [World.cell?] at h4 ⊢
  rw [h5]
  exact h4
/-- A row of texts in a block. -/
def Row (w : World) (q : Nat) (l : List ByteArray) : Prop := ∃ cur : Array Value, Bk w q 9 cur ∧ cur.toList.take l.length = strs l
theorem Row.lt {w : World} {q : Nat} {l : List ByteArray} (h : Row w q l) : q < w.heap.size := by obtain ⟨_, h, _⟩ := h; exact h.lt
theorem Row.below' {w w' : World} {q : Nat} {l : List ByteArray} (h : Row w q l) (hb : Below w.heap.size w w') : Row w' q l := by
  obtain ⟨cur, h1, h2⟩ := h
  exact ⟨cur, h1.below' hb, h2⟩
theorem Row.keep3 {w w' : World} {q b g m : Nat} {l : List ByteArray} (h : Row w q l) (hk : Keep3 b g m w w') (h1 : q ≠ b) (h2 : q ≠ g) (h3 : q ≠ m) : Row w' q l := by
  obtain ⟨cur, h4, h5⟩ := h
  exact ⟨cur, (hk.2.2.2.2 q h4.lt h1 h2 h3).trans h4, h5⟩
theorem Row.at_ {w : World} {q : Nat} {l : List ByteArray} (h : Row w q l) {i : Nat} {s : ByteArray} (hs : l[i]? = some s) : w.cell? ⟨q, i, none⟩ = some (.string s) ∧ w.frozen? ⟨q, i, none⟩ = false := by
  obtain ⟨cur, h1, h2⟩ := h
  refine ⟨?_, h1.frozen i⟩
  have h3 : (strs l)[i]? = some (.string s) := by unfold strs; rw [List.getElem?_map, hs]; rfl
  rw [← h2, List.getElem?_take] at h3
  split at h3
  · rw [h1.cell]; simpa using h3
  · cases h3
theorem Row.set_ {w : World} {q : Nat} {l : List ByteArray} (h : Row w q l) (i : Nat) (s : ByteArray) : Row (w.setCell ⟨q, i, none⟩ (.string s)) q (l.set i s) := by
  obtain ⟨cur, h1, h2⟩ := h
  refine ⟨_, h1.set_ i _, ?_⟩
  rw [Array.toList_setIfInBounds, List.length_set, List.take_set, h2]
  unfold strs
  rw [List.map_set]
theorem Row.far {w : World} {q : Nat} {l : List ByteArray} (h : Row w q l) {p : Addr} (hp : q ≠ p.block) (u : Value) : Row (w.setCell p u) q l := by
  obtain ⟨cur, h1, h2⟩ := h
  exact ⟨cur, h1.far hp u, h2⟩
/-- Append of one element that was just laid, and where the row then lies. -/
theorem wpList_append_new_at {P : Program} (w : World) {ops : Array Oper} {rest : List Oper} {o : Oper} {a : Act} {Q : Exit → Act → World → Prop} (hgd : o.guard = none) (s x : Operand) (t : TypeId)
    (ho : o.op = .call { callee := .builtin .append, args := #[s, x], argTypes := #[t, t] })
    (base : Nat) (e : TypeId) (size bytes : Nat) (hel : El P t e size bytes)
    (v : Value) (n : Nat) (xs : List Value) (hown : w.ownsRow base e size v n xs) (hs : a.eval s = v) (C : Array Value)
    (hx : a.eval x = .slice (some ⟨w.heap.size, 0, none⟩) 1 1) (hC : C.size = size) (h1 : ∀ u ∈ C.toList, u.oneCell' = true)
    (h63 : n + 1 ≤ maxLen) (hbytes : (n + 1) * bytes ≤ 140737488355328) (hbase : base ≤ w.heap.size)
    (h : ∀ v' w', w'.ownsRow base e size v' (n + 1) (xs ++ C.toList) → w.grownBy w' v.ownBlock → (v'.ownBlock = v.ownBlock ∨ ∃ q, v'.ownBlock = some q ∧ w.heap.size ≤ q) → wpList P ops Q rest (a.put o.dst v') w') : wpList P ops Q (o :: rest) a (w.alloc (.cells C e)) := by
  obtain ⟨ht, hsz, i, z, hi, hz, hsize, hby, hzs⟩ := hel
  refine wpList_append_own_at (w := w.alloc (.cells C e)) hgd s x t ho base e i z size bytes ht hi hz hsize hby hzs hsz v n xs hs (hown.alloc _) ⟨w.heap.size, 0, none⟩ 1 1 C.toList hx (by simp [hC]) ?_ h1 h63 hbytes (by simp; omega) ?_
  · intro j u hj
    rw [add_mk, World.cell?_alloc_mark]
    simpa using hj
  · intro v' w' h2 h3 _ h5
    refine h v' w' h2 ?_ (h5.imp id fun h6 => ⟨_, h6, by simp⟩)
    have h7 := World.grownBy_alloc w (.cells C e) v.ownBlock
    exact ⟨h3.os.trans h7.os, h3.tape.trans h7.tape, h3.output.trans h7.output, Nat.le_trans h7.size h3.size, fun k hk hne => (h3.block k (Nat.lt_of_lt_of_le hk h7.size) hne).trans (h7.block k hk hne)⟩
theorem el_strK : El Tryz.prog 45 9 1 16 := El.mk_ (z := .string ⟨#[]⟩) Tryz.underlying45 (by kernel_rfl) (by decide) (by rfl)
theorem grow_below {w w' : World} {B : Nat} {row : Option Nat} (hg : w.grownBy w' row) (hB : B ≤ w.heap.size) (hr : ∀ q, row = some q → B ≤ q) : Below B w w' :=
  ⟨hg.os, hg.tape, hg.output, hg.size, fun k hk => hg.block k (by omega) (fun e => by have := hr k e.symm; omega)⟩
theorem strs_snoc (l : List ByteArray) (z : ByteArray) : strs l ++ [Value.string z] = strs (l ++ [z]) := by simp [strs]
end Go.Proofs.YthjjdjhmaffoeaaGreatDoor
