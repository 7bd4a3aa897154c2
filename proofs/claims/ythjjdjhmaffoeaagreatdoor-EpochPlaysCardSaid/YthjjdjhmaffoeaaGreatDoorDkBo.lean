/-
  Both disks, the code's and the reference's, beside one another in memory. No function in sight.
-/
import Derived.Test.YthjjdjhmaffoeaaGreatDoorDkX
namespace Go.Proofs.YthjjdjhmaffoeaaGreatDoor
open Go.RowKit Go.Maps

/-- All old blocks but those of F are as they were. -/
def KeepL (F : List Nat) (w w' : World) : Prop := w'.os = w.os ∧ w'.tape = w.tape ∧ w'.output = w.output ∧ w.heap.size ≤ w'.heap.size ∧ ∀ k, k < w.heap.size → k ∉ F → w'.heap[k]? = w.heap[k]?
theorem KeepL.refl (F : List Nat) (w : World) : KeepL F w w := ⟨rfl, rfl, rfl, Nat.le_refl _, fun _ _ _ => rfl⟩
theorem KeepL.trans {F : List Nat} {w w' w'' : World} (h : KeepL F w w') (h2 : KeepL F w' w'') : KeepL F w w'' :=
  ⟨h2.1.trans h.1, h2.2.1.trans h.2.1, h2.2.2.1.trans h.2.2.1, Nat.le_trans h.2.2.2.1 h2.2.2.2.1, fun k hk a => (h2.2.2.2.2 k (Nat.lt_of_lt_of_le hk h.2.2.2.1) a).trans (h.2.2.2.2 k hk a)⟩
theorem KeepL.of_below {F : List Nat} {w w' : World} (h : Below w.heap.size w w') : KeepL F w w' := ⟨h.os, h.tape, h.output, h.size, fun k hk _ => h.block k hk⟩
theorem KeepL.of3 {b g m : Nat} {F : List Nat} {w w' : World} (h : Keep3 b g m w w') (hF : b ∈ F ∧ g ∈ F ∧ m ∈ F) : KeepL F w w' :=
  ⟨h.1, h.2.1, h.2.2.1, h.2.2.2.1, fun k hk hn => h.2.2.2.2 k hk (fun e => hn (e ▸ hF.1)) (fun e => hn (e ▸ hF.2.1)) (fun e => hn (e ▸ hF.2.2))⟩
theorem KeepL.of4 {b go gl gf : Nat} {F : List Nat} {w w' : World} (h : Keep4 b go gl gf w w') (hF : b ∈ F ∧ go ∈ F ∧ gl ∈ F ∧ gf ∈ F) : KeepL F w w' :=
  ⟨h.1, h.2.1, h.2.2.1, h.2.2.2.1, fun k hk hn => h.2.2.2.2 k hk (fun e => hn (e ▸ hF.1)) (fun e => hn (e ▸ hF.2.1)) (fun e => hn (e ▸ hF.2.2.1)) (fun e => hn (e ▸ hF.2.2.2))⟩
theorem KeepL.below {F : List Nat} {B : Nat} {w w' : World} (h : KeepL F w w') (hB : B ≤ w.heap.size) (hF : ∀ k ∈ F, B ≤ k) : Below B w w' :=
  ⟨h.1, h.2.1, h.2.2.1, h.2.2.2.1, fun k hk => h.2.2.2.2 k (by omega) (fun hm => by have := hF k hm; omega)⟩
theorem KeepL.cell {F : List Nat} {w w' : World} (h : KeepL F w w') {p : Addr} {v : Value} (hv : w.cell? p = some v) (hn : p.block ∉ F) : w'.cell? p = some v := by
  have hlt := World.block_lt_of_cell? w _ hv
  have h5 := h.2.2.2.2 p.block hlt hn
  simp only [World.cell?] at hv ⊢
  rw [h5]
  exact hv
theorem DiskAt.same {w w' : World} {b g m n : Nat} {S : St} (h : DiskAt w b g m S n) (hk : ∀ k, k = b ∨ k = g ∨ k = m → w'.heap[k]? = w.heap[k]?) : DiskAt w' b g m S n := by
  obtain ⟨cur, c, D, hB, hG, hcur, hc, hM, hrest⟩ := h
  obtain ⟨es, clock, hm, hr⟩ := hM
  exact ⟨cur, c, D, (hk b (by simp)).trans hB, (hk g (by simp)).trans hG, hcur, hc, ⟨es, clock, (hk m (by simp)).trans hm, hr⟩, hrest⟩
theorem DiskAt.lts {w : World} {b g m n : Nat} {S : St} (h : DiskAt w b g m S n) : b < w.heap.size ∧ g < w.heap.size ∧ m < w.heap.size := by
  obtain ⟨_, _, _, h2, h3, _, _, h4, _⟩ := h
  exact ⟨h2.lt, h3.lt, h4.lt⟩
/-- The two disks' blocks are others. -/
def Sep (b g m rb go gl gf : Nat) : Prop := (b ≠ rb ∧ b ≠ go ∧ b ≠ gl ∧ b ≠ gf) ∧ (g ≠ rb ∧ g ≠ go ∧ g ≠ gl ∧ g ≠ gf) ∧ (m ≠ rb ∧ m ≠ go ∧ m ≠ gl ∧ m ≠ gf)
theorem RefAt.keep3 {w w' : World} {b g m rb go gl gf c1 c2 c3 n : Nat} {S : St} (h : RefAt w rb go gl gf c1 c2 c3 S n) (hs : Sep b g m rb go gl gf) (hk : Keep3 b g m w w') : RefAt w' rb go gl gf c1 c2 c3 S n := by
  obtain ⟨⟨a1, a2, a3, a4⟩, ⟨b1, b2, b3, b4⟩, ⟨d1, d2, d3, d4⟩⟩ := hs
  refine h.same fun k hkk => hk.2.2.2.2 k (h.lt k hkk) ?_ ?_ ?_ <;> rcases hkk with rfl | rfl | rfl | rfl <;> (intro e; omega)
theorem DiskAt.keep4 {w w' : World} {b g m rb go gl gf n : Nat} {S : St} (h : DiskAt w b g m S n) (hs : Sep b g m rb go gl gf) (hk : Keep4 rb go gl gf w w') : DiskAt w' b g m S n := by
  obtain ⟨⟨a1, a2, a3, a4⟩, ⟨b1, b2, b3, b4⟩, ⟨d1, d2, d3, d4⟩⟩ := hs
  obtain ⟨l1, l2, l3⟩ := h.lts
  refine h.same fun k hkk => hk.2.2.2.2 k (by rcases hkk with rfl | rfl | rfl <;> assumption) ?_ ?_ ?_ ?_ <;> rcases hkk with rfl | rfl | rfl <;> (intro e; omega)
/-- Both disks stand for one state. -/
structure Both (w : World) (b g m rb go gl gf c1 c2 c3 : Nat) (S : St) (n : Nat) : Prop where
  dk : DiskAt w b g m S n
  rf : RefAt w rb go gl gf c1 c2 c3 S n
  sp : Sep b g m rb go gl gf
section
variable {w w' : World} {b g m rb go gl gf c1 c2 c3 n : Nat} {S S' : St}
theorem Both.quiet (h : Both w b g m rb go gl gf c1 c2 c3 S n) (hb : Below w.heap.size w w') : Both w' b g m rb go gl gf c1 c2 c3 S n := ⟨h.dk.below hb, h.rf.below hb, h.sp⟩
theorem Both.lt (h : Both w b g m rb go gl gf c1 c2 c3 S n) : ∀ k ∈ [b, g, m, rb, go, gl, gf], k < w.heap.size := fun k hk => by
  obtain ⟨l1, l2, l3⟩ := h.dk.lts
  simp at hk
  rcases hk with rfl | rfl | rfl | hk
  · exact l1
  · exact l2
  · exact l3
  · exact h.rf.lt k hk
/-- Other blocks have turned. -/
theorem Both.keepL {F : List Nat} (h : Both w b g m rb go gl gf c1 c2 c3 S n) (hk : KeepL F w w') (hF : ∀ k ∈ [b, g, m, rb, go, gl, gf], k ∉ F) : Both w' b g m rb go gl gf c1 c2 c3 S n := by
  refine ⟨h.dk.same fun k hkk => hk.2.2.2.2 k (h.lt k (by simp; omega)) (hF k (by simp; omega)), h.rf.same fun k hkk => hk.2.2.2.2 k (h.lt k (by simp; omega)) (hF k (by simp; omega)), h.sp⟩
end
end Go.Proofs.YthjjdjhmaffoeaaGreatDoor
