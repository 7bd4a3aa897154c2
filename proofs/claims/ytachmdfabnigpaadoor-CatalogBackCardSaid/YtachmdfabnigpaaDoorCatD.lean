/-
  Entries in a row: slices.Clone and slices.SortFunc at them; the order of catalog.Room.
-/
import Derived.Test.YtachmdfabnigpaaDoorCatC
import Derived.Test.YtachmdfabnigpaaDoorShelf
namespace Go.Proofs.YtachmdfabnigpaaDoor
open Go.RowKit Go.Sort

/-- An entry whose place is no farther than that. -/
structure Ent where
  id : Int
  sa : ByteArray
  n : Int
  bs : Int
  raw : Int
  ro : ByteArray
  ta : ByteArray
  ba : Int
  hb : 0 ≤ ba ∧ ba ≤ 2000
  hn : 1 ≤ n ∧ n ≤ 2000
instance : Inhabited Ent := ⟨⟨0, ⟨#[]⟩, 1, 0, 0, ⟨#[]⟩, ⟨#[]⟩, 0, by omega, by omega⟩⟩
def Ent.cs (x : Ent) : List Value := [.int .i64 x.id, .string x.sa, .int .i64 x.n, .int .i64 x.bs, .int .i64 x.raw, .string x.ro, .string x.ta, .int .i64 x.ba]
theorem Ent.len (x : Ent) : x.cs.length = 8 := rfl
theorem Ent.one (x : Ent) : ∀ v ∈ x.cs, v.oneCell' = true := fun v hv => by
  simp [Ent.cs] at hv
  rcases hv with rfl | rfl | rfl | rfl | rfl | rfl | rfl | rfl <;> rfl
def entC (x y : Ent) : Int := x.ba - y.ba
theorem entC_lt (x y : Ent) : ltOf entC x y = decide (x.ba < y.ba) := by
  unfold ltOf entC
  rw [decide_eq_decide]
  omega
theorem entC_swo : SWO (ltOf entC) where
  irrefl x := by rw [entC_lt]; simp
  trans x y z h1 h2 := by rw [entC_lt] at *; simp at *; omega
  ntrans x y z h1 h2 := by rw [entC_lt] at *; simp at *; omega

set_option maxRecDepth 20000 in
set_option maxHeartbeats 2000000 in
theorem room1_any (x y : Ent) (W : World) : Calls Tryd.prog 39 #[.agg x.cs.toArray, .agg y.cs.toArray] W fun e w' => e = .returned (.int .i64 (entC x y)) ∧ ∃ q os', w' = grow (W.drewN q) os' := by
  obtain ⟨id, sa, n, bs, raw, ro, ta, ba, ⟨h1, h2⟩, h3⟩ := x
  obtain ⟨id2, sa2, n2, bs2, raw2, ro2, ta2, ba2, ⟨k1, k2⟩, k3⟩ := y
  unfold Ent.cs entC
  go_enter Tryd.func39, Tryd.ntmps39
  go_wp2_with fail
  go_ret
  exact ⟨rfl, 0, _, by rw [alloc_eq_grow, alloc_eq_grow, grow_grow]; rfl⟩
theorem room1_lays (blk off size : Nat) (w : World) : CmpLays Tryd.prog 39 #[] Ent.cs 8 entC blk off size w :=
  fun _ _ _ _ x y => room1_any x y _

/-- A row of a call's own holds these entries. -/
def Ents (w : World) (g : Nat) (l : List Ent) : Prop := g < w.heap.size ∧ HoldsK Ent.cs 8 w g 0 l.toArray
theorem sort_any (l : List Ent) (g cap : Nat) (B : Nat) (w : World) (hl : l.length < 4611686018427387904) (h : Ents w g l) (hg : B ≤ g) :
    Calls Tryd.prog 38 #[.slice (some ⟨g, 0, none⟩) l.length cap, .func (.func 39) #[] #[]] w fun e w' =>
      e = .returned (.tuple #[]) ∧ ∃ l' : List Ent, l'.Perm l ∧ (l'.Pairwise fun x y => x.ba ≤ y.ba) ∧ Ents w' g l' ∧ Below B w w' := by
  obtain ⟨hlt, hH⟩ := h
  have eg : ∀ args w, (callFunc 39 args).run Tryd.prog w = .ok (.enter 39 args) w := enters_of Tryd.func39 (by kernel_rfl) rfl
  have hcon := AnyQ.slices_SortFunc Tryd.sortExt 8 Tryd.isAgg25 Tryd.sizeOf25 Ent.cs Ent.len Ent.one entC entC_swo 39 #[] g 0 cap l.toArray w eg (room1_lays _ _ _ _) hH hlt hl
  change Calls Tryd.prog 38 _ _ _ at hcon
  refine hcon.mono ?_
  rintro e w' ⟨rfl, d', n, os, ⟨hp1, _, hp2⟩, hs, rfl⟩
  have hz : d'.size = l.length := hp1
  refine ⟨rfl, d'.toList, ?_, ?_, ⟨lt_sortWorldK Ent.cs 8 w g 0 n d' os hlt, ?_⟩, ?_⟩
  · have e1 : d'.extract 0 l.toArray.size = d' := by rw [show l.toArray.size = d'.size from hz.symm]; simp
    have e2 : l.toArray.extract 0 l.toArray.size = l.toArray := by simp
    rw [e1, e2] at hp2
    exact hp2
  · rw [List.pairwise_iff_getElem]
    intro i j hi hj hij
    have h1 := hs i j (Nat.zero_le _) hij (by rw [Array.length_toList] at hj; exact (show l.toArray.size = d'.size from hp1.symm) ▸ hj)
    rw [Array.length_toList] at hi hj
    rw [entC_lt, getElem!_pos d' i hi, getElem!_pos d' j hj] at h1
    have := of_decide_eq_false h1
    rw [Array.getElem_toList, Array.getElem_toList]
    omega
  · rw [Array.toArray_toList]
    exact holdsK_sortWorldK Ent.cs 8 w g 0 n l.toArray d' os hlt hH hp1
  · refine ⟨rfl, rfl, rfl, ?_, fun k hk => ?_⟩
    · unfold sortWorldK
      rw [size_grow, size_putRowK]
      exact Nat.le_add_right _ _
    · have hk2 : k < w.heap.size := by omega
      show ((putRowK Ent.cs 8 (Sort.ahead w n) g 0 d').heap ++ os)[k]? = w.heap[k]?
      rw [Array.getElem?_append_left (by rw [size_putRowK]; exact hk2)]
      unfold putRowK putRow mapBlock
      rw [Array.getElem?_modify, if_neg (by omega)]
      rfl
end Go.Proofs.YtachmdfabnigpaaDoor
