/-
  A row of bytes that a conversion of a string has made, and appends of bytes to it. No function in sight. Appends of a string's bytes to a row that a conversion has made. No function in sight.
-/
import Derived.Test.YtnhbkfefpkocaaaP1
import Derived.Lib.FrozenHead
import Derived.Lib.ConvBytes
import Derived.Lib.AtoiErrMem
import Derived.Lib.SliceRun
namespace Go.Proofs.Ytnhbkfefpkocaaa
open Go.RowKit Go.Lib

theorem storeCells_free (P : Program) (g o : Nat) (t : TypeId) (fz : Nat × Nat) : ∀ (vs : List Value) (i : Nat) (cur : Array Value) (w : World), w.heap[g]? = some (.cells cur t fz) → (fz.2 = 0 ∨ cur.size ≤ fz.1) → o + i + vs.length ≤ cur.size → (∀ v ∈ vs, v.oneCell' = true) →
    (storeCells ⟨g, o, none⟩ vs i).run P w = .ok () (w.setRow g (cur.toList.take (o + i) ++ vs ++ cur.toList.drop (o + i + vs.length)).toArray)
  | [], i, cur, w, hg, _, _, _ => by
    simp only [storeCells, List.append_nil, List.length_nil, Nat.add_zero, List.take_append_drop, Array.toArray_toList]
    rw [setRow_self w g cur t fz hg]
    rfl
  | v :: rest, i, cur, w, hg, hfz, hl, h1 => by
    have hi : o + i < cur.size := by simp at hl; omega
    have hadd : (⟨g, o, none⟩ : Addr).add i = ⟨g, o + i, none⟩ := add_mk g o i
    have hcell : w.cell? ⟨g, o + i, none⟩ = some cur[o + i] := by simp [World.cell?, hg, hi]
    have hfro : w.frozen? ⟨g, o + i, none⟩ = false := by
      obtain ⟨lo, hi'⟩ := fz
      simp only [World.frozen?, hg, Bool.and_eq_false_iff, decide_eq_false_iff_not]
      simp only at hfz
      omega
    have hst : (store ((⟨g, o, none⟩ : Addr).add i) v).run P w = .ok () (w.setRow g (cur.setIfInBounds (o + i) v)) := by
      rw [hadd, run_store P w _ v _ (h1 v (by simp)), hcell]
      simp [hfro, setCell_eq_setRow w g (o + i) cur t fz v hg]
    have ih := storeCells_free P g o t fz rest (i + 1) (cur.setIfInBounds (o + i) v) (w.setRow g (cur.setIfInBounds (o + i) v)) (setRow_heap w g cur _ t _ hg) (by simpa using hfz) (by simp at hl ⊢; omega) (fun x hx => h1 x (by simp [hx]))
    simp only [storeCells, Sem.run_bind, hst, Result.andThen_ok, ih, setRow_setRow]
    congr 3
    have e := list_seg_step cur.toList (o + i) v rest (by simp at hl ⊢; omega)
    simpa [Array.toList_setIfInBounds, Nat.add_assoc] using e

/-- A slice of bytes in memory of a call's own, no cell of it frozen. -/
def OwnB (w : World) (base : Nat) (e : TypeId) (v : Value) (l : List UInt8) : Prop :=
  ∃ g cap cur fz, v = .slice (some ⟨g, 0, none⟩) l.length cap ∧ base ≤ g ∧ w.heap[g]? = some (.cells cur e fz) ∧ (fz.2 = 0 ∨ cur.size ≤ fz.1) ∧ l.length ≤ cap ∧ cap ≤ maxLen ∧ cur.size = cap ∧ cur.toList.take l.length = byteVals l
theorem OwnB.below' {w w' : World} {base : Nat} {e : TypeId} {v : Value} {l : List UInt8} (h : OwnB w base e v l) (hb : Below w.heap.size w w') : OwnB w' base e v l := by
  obtain ⟨g, cap, cur, fz, h1, h2, h3, h4⟩ := h
  exact ⟨g, cap, cur, fz, h1, h2, (hb.block g (Array.getElem?_eq_some_iff.1 h3).1).trans h3, h4⟩
theorem OwnB.cells {w : World} {base : Nat} {e : TypeId} {v : Value} {l : List UInt8} (h : OwnB w base e v l) : ∃ g cap, v = .slice (some ⟨g, 0, none⟩) l.length cap ∧ l.length ≤ cap ∧ cap ≤ maxLen ∧ base ≤ g ∧ g < w.heap.size ∧ ∀ j u, (byteVals l)[j]? = some u → w.cell? ((⟨g, 0, none⟩ : Addr).add j) = some u := by
  obtain ⟨g, cap, cur, fz, h1, h2, h3, _, h5, h6, h7, h8⟩ := h
  refine ⟨g, cap, h1, h5, h6, h2, (Array.getElem?_eq_some_iff.1 h3).1, fun j u hj => ?_⟩
  rw [add_mk, cell_of_row w g _ cur e fz h3, Nat.zero_add]
  rw [← h8, List.getElem?_take] at hj
  split at hj
  · simpa using hj
  · cases hj
theorem strCells_vals (s : ByteArray) : strCells s = byteVals s.toList := by
  rw [ByteArray.toList_eq]; rfl
/-- The conversion makes such a row. -/
theorem OwnB.conv (w : World) (e : TypeId) (s : ByteArray) (hs : s.size ≤ maxLen) : OwnB (bytesWorld w e s) w.heap.size e (.slice (some ⟨w.heap.size, 0, none⟩) s.size (grownCap w s.size 0 e)) s.toList := by
  have hge := grownCap_ge w s.size 0 e
  have hcm := grownCap_le_maxLen w s.size 0 e hs
  have hsz : (bytesCells w e s).size = grownCap w s.size 0 e := by
    unfold bytesCells
    rw [Array.size_append, Array.size_map, Array.size_replicate]
    have : s.data.size = s.size := rfl
    omega
  refine ⟨w.heap.size, _, _, _, by rw [size_toList], Nat.le_refl _, bytesWorld_at_new w e s, .inr (Nat.le_refl _), by rw [size_toList]; exact hge, hcm, hsz, ?_⟩
  unfold bytesCells
  rw [Array.toList_append, List.take_left' (by rw [Array.toList_map, List.length_map, size_toList]; rfl), Array.toList_map, ByteArray.toList_eq]
  rfl

section
variable {P : Program}
theorem append_room_free1 (w : World) (t ty e : TypeId) (i : TypeInfo) (ht : P.underlying t = some (.slice e)) (hi : P.info? e = some i) (hs1 : i.size = 1)
    (g sLen sCap : Nat) (cur : Array Value) (fz : Nat × Nat) (hg : w.heap[g]? = some (.cells cur e fz)) (hfz : fz.2 = 0 ∨ cur.size ≤ fz.1) (ad : Addr) (m c : Nat) (news : List Value) (hl : news.length = m) (hn : ∀ j u, news[j]? = some u → w.cell? (ad.add j) = some u) (h1 : ∀ u ∈ news, u.oneCell' = true)
    (hroom : sLen + m ≤ sCap) (hfit : sLen + m ≤ cur.size) :
    (Builtin.append_ #[t, t] ty #[.slice (some ⟨g, 0, none⟩) sLen sCap, .slice (some ad) m c]).run P w =
      .ok (.slice (some ⟨g, 0, none⟩) (sLen + m) sCap) (w.setRow g (cur.toList.take sLen ++ news ++ cur.toList.drop (sLen + m)).toArray) := by
  have hf := run_firstCells_some (P := P) w 1 m ad m c news (by omega) hn
  have hst := storeCells_free P g sLen e fz news 0 cur w hg hfz (by omega) h1
  simp only [Nat.add_zero, hl] at hst
  simp [Builtin.append_, run_underlying ht, sizeOf, typeInfo, hi, hs1, Builtin.lenOf, hroom, hf, Addr.add_lit, hst]
theorem append_own_slice (w : World) (base : Nat) (t ty e : TypeId) (i : TypeInfo) (ht : P.underlying t = some (.slice e)) (hi : P.info? e = some i) (hz : i.zero = some (.int .u8 0))
    (hsize : i.size = 1) (hby : i.bytes = 1) (v : Value) (l : List UInt8) (hown : OwnB w base e v l) (ad : Addr) (m c : Nat) (bs : List UInt8) (hm : bs.length = m) (hn : ∀ j u, (byteVals bs)[j]? = some u → w.cell? (ad.add j) = some u)
    (hbytes : l.length + m ≤ 1000000000000) (hbase : base ≤ w.heap.size) :
    ∃ v' w', (Builtin.append_ #[t, t] ty #[v, .slice (some ad) m c]).run P w = .ok v' w' ∧ OwnB w' base e v' (l ++ bs) ∧ Below base w w' := by
  have h63 : l.length + m ≤ maxLen := by unfold maxLen; omega
  have hall := hown.cells
  obtain ⟨g, cap, cur, fz, rfl, hbg, hg, hfz, hnc, hcm, hcs, htake⟩ := hown
  have hlen : (l ++ bs).length = l.length + m := by rw [List.length_append, hm]
  have hone : ∀ u ∈ byteVals bs, u.oneCell' = true := fun u hu => by
    unfold byteVals at hu
    obtain ⟨x, _, rfl⟩ := List.mem_map.1 hu
    rfl
  have e1 : byteVals l ++ byteVals bs = byteVals (l ++ bs) := by unfold byteVals; rw [List.map_append]
  by_cases hroom : l.length + m ≤ cap
  · have hr := append_room_free1 (P := P) w t ty e i ht hi hsize g l.length cap cur fz hg hfz ad m c (byteVals bs) (by rw [byteVals_length, hm]) hn hone hroom (by omega)
    refine ⟨_, _, hr, ⟨g, cap, _, fz, by rw [hlen], hbg, setRow_heap w g cur _ e _ hg, ?_, by rw [hlen]; exact hroom, hcm, ?_, ?_⟩, ⟨rfl, rfl, rfl, by simp, fun k hk => setRow_other w g k _ (by omega)⟩⟩
    · refine hfz.imp id fun h => ?_
      simp only [List.size_toArray, List.length_append, List.length_take, List.length_drop, Array.length_toList, byteVals_length]
      omega
    · simp only [List.size_toArray, List.length_append, List.length_take, List.length_drop, Array.length_toList, byteVals_length]
      omega
    · rw [htake, e1]
      exact List.take_left' (byteVals_length _)
  · obtain ⟨g', cap', e', _, _, _, _, hc⟩ := hall
    cases e'
    have hr := run_append_grow (P := P) (w := w) t ty e i (.int .u8 0) ht hi hz ⟨g, 0, none⟩ l.length cap (byteVals l) (by rw [hsize, byteVals_length]; omega) hc ad m c (byteVals bs) (by rw [hsize, byteVals_length, hm]; omega) hn (by omega) (by unfold maxLen at *; omega) (by rw [hby]; exact growslice_fits (by omega) (by omega))
    have hge := grownCap_ge w (l.length + m) cap e
    have hcm2 : grownCap w (l.length + m) cap e ≤ maxLen := grownCap_le_maxLen w (l.length + m) cap e h63
    refine ⟨_, _, hr, ⟨w.heap.size, _, _, (0, 0), by rw [hlen], hbase, heap_alloc_new w.drew _, .inl rfl, by rw [hlen]; exact hge, hcm2, ?_, ?_⟩, ⟨rfl, rfl, rfl, by simp, fun k hk => Below.heap_alloc w.drew _ k (show k < w.heap.size by omega)⟩⟩
    · have hz1 : (Value.int IntKind.u8 0).cells.size = 1 := rfl
      simp only [Array.size_append, List.size_toArray, size_zeroCells, hz1, byteVals_length]
      omega
    · simp only [Array.toList_append, List.append_assoc]
      rw [← List.append_assoc, e1]
      exact List.take_left' (byteVals_length _)
/-- 'b = append(b, x)': one byte, for the walk. -/
theorem wpList_append_byte1 {ops : Array Oper} {rest : List Oper} {o : Oper} {a : Act} {w : World} {Q : Exit → Act → World → Prop} (hgd : o.guard = none) (sl x : Operand) (t : TypeId)
    (ho : o.op = .call { callee := .builtin .append, args := #[sl, x], argTypes := #[t, t] })
    (base : Nat) (e : TypeId) (hel : El P t e 1 1) (hz : (P.info? e).map (fun i => (i.zero, i.size, i.bytes)) = some (some (.int .u8 0), 1, 1))
    (v : Value) (l : List UInt8) (hs : a.eval sl = v) (hown : OwnB w base e v l) (b : UInt8) (n : Int) (hbn : (b.toNat : Int) = n) (hx : a.eval x = .slice (some ⟨w.heap.size, 0, none⟩) 1 1)
    (hbytes : l.length + 1 ≤ 1000000000000) (hbase : base ≤ w.heap.size)
    (h : ∀ v' w', OwnB w' base e v' (l ++ [b]) → Below base w w' → wpList P ops Q rest (a.put o.dst v') w') : wpList P ops Q (o :: rest) a (w.alloc (.cells #[.int .u8 n] e)) := by
  subst hbn
  refine wpList_plain hgd fun K hK => ?_
  obtain ⟨i, hi, z0, z1, z2⟩ := info_parts hz
  have hal : Below w.heap.size w (w.alloc (.cells #[.int .u8 (b.toNat : Int)] e)) := (Below.refl _ w).alloc (Nat.le_refl _) _
  obtain ⟨v', w', hr, h2, h3⟩ := append_own_slice (P := P) (w.alloc (.cells #[.int .u8 (b.toNat : Int)] e)) base t o.type e i hel.1 hi z0 z1 z2 v l (hown.below' hal) ⟨w.heap.size, 0, none⟩ 1 1 [b] rfl (fun j u hj => by
    rw [add_mk, World.cell?_alloc_mark]
    simpa [byteVals] using hj) hbytes (by simp; omega)
  unfold Oper.wp execOp
  simp only [ho, resolve, invoke, builtin, Sem.run_bind, Sem.run_pure, Result.andThen_ok, List.map_toArray, List.map_cons, List.map_nil, hs, hx, hr]
  exact hK _ _ (h v' w' h2 ((hal.mono hbase).trans h3))
end
theorem conv_ownB {P : Program} {w : World} {base : Nat} {e0 : TypeId} {v : Value} {l : List UInt8} (hown : OwnB w base e0 v l) (src dst e : TypeId) (hs : P.underlying src = some (.slice e)) (he : P.underlying e = some (.int .u8)) (hd : P.underlying dst = some .string) :
    (convert src dst v).run P w = .ok (.string (ofL l)) w := by
  obtain ⟨g, cap, rfl, _, _, _, _, hc⟩ := hown.cells
  exact conv_back w src dst e ⟨g, 0, none⟩ cap l l.length rfl hs he hd hc
end Go.Proofs.Ytnhbkfefpkocaaa
namespace Go.Proofs.Ytnhbkfefpkocaaa
open Go.RowKit Go.Lib

/-- The slice's cells lie elsewhere than in a value's own block. -/
def OffV (v : Value) (A : Option Addr) (xs : List Value) : Prop := xs ≠ [] → ∀ ad, A = some ad → v.ownBlock ≠ some ad.block
theorem Rd.onlyV {w w' : World} {A : Option Addr} {xs : List Value} {v : Value} (h : Rd w A xs) (hg : w.grownBy w' v.ownBlock) (ho : OffV v A xs) : Rd w' A xs := fun hn => by
  obtain ⟨b, o, e, hc⟩ := h hn
  refine ⟨b, o, e, fun j u hj => hg.cell (hc j u hj) ?_⟩
  have := ho hn _ e
  intro e2
  exact this (by rw [← e2])
theorem OffV.next {w : World} {v v' : Value} {A : Option Addr} {xs : List Value} (h : OffV v A xs) (hr : Rd w A xs) (h2 : ∀ k, k < w.heap.size → v.ownBlock ≠ some k → v'.ownBlock ≠ some k) : OffV v' A xs := fun hn ad hA => by
  obtain ⟨b, o, e, hc⟩ := hr hn
  have hb : b < w.heap.size := by
    cases xs with
    | nil => exact absurd rfl hn
    | cons x xs => exact World.block_lt_of_cell? w _ (hc 0 x rfl)
  rw [hA] at e
  cases e
  exact h2 b hb (h hn _ hA)
theorem OwnB.ne {w : World} {base : Nat} {e : TypeId} {v : Value} {l : List UInt8} (h : OwnB w base e v l) : v.ownBlock ≠ some w.heap.size := by
  obtain ⟨g, cap, rfl, _, _, _, hlt, _⟩ := h.cells
  simp [Value.ownBlock]
  omega
theorem Bk.onlyV {w w' : World} {g : Nat} {t : TypeId} {cs : Array Value} {v : Value} (h : Bk w g t cs) (hg : w.grownBy w' v.ownBlock) (hne : v.ownBlock ≠ some g) : Bk w' g t cs := (hg.block g h.lt (fun e => hne e.symm)).trans h
section
variable {P : Program}
theorem append_room_free (w : World) (t u ty e : TypeId) (i : TypeInfo) (ht : P.underlying t = some (.slice e)) (hu : P.underlying u = some .string) (hi : P.info? e = some i) (hs1 : i.size = 1)
    (g sLen sCap : Nat) (cur : Array Value) (fz : Nat × Nat) (hg : w.heap[g]? = some (.cells cur e fz)) (hfz : fz.2 = 0 ∨ cur.size ≤ fz.1) (s : ByteArray)
    (hroom : sLen + s.size ≤ sCap) (hfit : sLen + s.size ≤ cur.size) :
    (Builtin.append_ #[t, u] ty #[.slice (some ⟨g, 0, none⟩) sLen sCap, .string s]).run P w =
      .ok (.slice (some ⟨g, 0, none⟩) (sLen + s.size) sCap) (w.setRow g (cur.toList.take sLen ++ strCells s ++ cur.toList.drop (sLen + s.size)).toArray) := by
  have hf := run_firstCells_string (P := P) w 1 s
  have hst := storeCells_free P g sLen e fz (strCells s) 0 cur w hg hfz (by simpa [strCells_length] using hfit) (strCells_oneCell s)
  simp only [Nat.add_zero, strCells_length] at hst
  simp [Builtin.append_, run_underlying ht, run_underlying hu, sizeOf, typeInfo, hi, hs1, Builtin.lenOf, hroom, hf, Addr.add_lit, hst]

theorem append_own_bytes (w : World) (base : Nat) (t u ty e : TypeId) (i : TypeInfo) (ht : P.underlying t = some (.slice e)) (hu : P.underlying u = some .string) (hi : P.info? e = some i) (hz : i.zero = some (.int .u8 0))
    (hsize : i.size = 1) (hby : i.bytes = 1) (v : Value) (l : List UInt8) (hown : OwnB w base e v l) (s : ByteArray)
    (hbytes : l.length + s.size ≤ 1000000000000) (hbase : base ≤ w.heap.size) :
    ∃ v' w', (Builtin.append_ #[t, u] ty #[v, .string s]).run P w = .ok v' w' ∧ OwnB w' base e v' (l ++ s.toList) ∧ Below base w w' ∧ w.grownBy w' v.ownBlock ∧ ∀ k, k < w.heap.size → v.ownBlock ≠ some k → v'.ownBlock ≠ some k := by
  have h63 : l.length + s.size ≤ maxLen := by unfold maxLen; omega
  have hall := hown.cells
  obtain ⟨g, cap, cur, fz, rfl, hbg, hg, hfz, hnc, hcm, hcs, htake⟩ := hown
  have hlen : (l ++ s.toList).length = l.length + s.size := by rw [List.length_append, size_toList]
  by_cases hroom : l.length + s.size ≤ cap
  · have hr := append_room_free (P := P) w t u ty e i ht hu hi hsize g l.length cap cur fz hg hfz s hroom (by omega)
    refine ⟨_, _, hr, ⟨g, cap, _, fz, by rw [hlen], hbg, setRow_heap w g cur _ e _ hg, ?_, by rw [hlen]; exact hroom, hcm, ?_, ?_⟩, ⟨rfl, rfl, rfl, by simp, fun k hk => setRow_other w g k _ (by omega)⟩, ⟨rfl, rfl, rfl, by simp, fun k _ hk => setRow_other w g k _ (fun e => hk (by simp [Value.ownBlock, e]))⟩, fun k _ hne => hne⟩
    · refine hfz.imp id fun h => ?_
      simp only [List.size_toArray, List.length_append, List.length_take, List.length_drop, Array.length_toList, strCells_length]
      omega
    · simp only [List.size_toArray, List.length_append, List.length_take, List.length_drop, Array.length_toList, strCells_length]
      omega
    · rw [htake, strCells_vals]
      have e1 : byteVals l ++ byteVals s.toList = byteVals (l ++ s.toList) := by unfold byteVals; rw [List.map_append]
      rw [e1]
      exact List.take_left' (byteVals_length _)
  · obtain ⟨g', cap', e', _, _, _, _, hc⟩ := hall
    cases e'
    have hr := run_append_grow_string (P := P) w t u ty e i (.int .u8 0) ht hu hi hz ⟨g, 0, none⟩ l.length cap (byteVals l) (by rw [hsize, byteVals_length]; omega) hc s (by omega) (by unfold maxLen at *; omega) (by rw [hby]; exact growslice_fits (by omega) (by omega))
    have hge := grownCap_ge w (l.length + s.size) cap e
    have hcm2 : grownCap w (l.length + s.size) cap e ≤ maxLen := grownCap_le_maxLen w (l.length + s.size) cap e h63
    refine ⟨_, _, hr, ⟨w.heap.size, _, _, (0, 0), by rw [hlen], hbase, heap_alloc_new w.drew _, .inl rfl, by rw [hlen]; exact hge, hcm2, ?_, ?_⟩, ⟨rfl, rfl, rfl, by simp, fun k hk => Below.heap_alloc w.drew _ k (show k < w.heap.size by omega)⟩, ⟨rfl, rfl, rfl, by simp, fun k hk _ => Below.heap_alloc w.drew _ k hk⟩, fun k hk _ => by simp [Value.ownBlock]; omega⟩
    · have hz1 : (Value.int IntKind.u8 0).cells.size = 1 := rfl
      simp only [Array.size_append, List.size_toArray, size_zeroCells, hz1, byteVals_length, strCells_length]
      omega
    · simp only [Array.toList_append, List.append_assoc]
      rw [strCells_vals]
      have e1 : byteVals l ++ byteVals s.toList = byteVals (l ++ s.toList) := by unfold byteVals; rw [List.map_append]
      rw [← List.append_assoc, e1]
      exact List.take_left' (byteVals_length _)
/-- The operation, for the walk. -/
theorem wpList_append_bytes {ops : Array Oper} {rest : List Oper} {o : Oper} {a : Act} {w : World} {Q : Exit → Act → World → Prop} (hgd : o.guard = none) (sl x : Operand) (t u : TypeId)
    (ho : o.op = .call { callee := .builtin .append, args := #[sl, x], argTypes := #[t, u] })
    (base : Nat) (e : TypeId) (hel : El P t e 1 1) (hu : P.underlying u = some .string) (hz : (P.info? e).map (fun i => (i.zero, i.size, i.bytes)) = some (some (.int .u8 0), 1, 1))
    (v : Value) (l : List UInt8) (hs : a.eval sl = v) (hown : OwnB w base e v l) (s : ByteArray) (hx : a.eval x = .string s)
    (hbytes : l.length + s.size ≤ 1000000000000) (hbase : base ≤ w.heap.size)
    (h : ∀ v' w', OwnB w' base e v' (l ++ s.toList) → Below base w w' → w.grownBy w' v.ownBlock → (∀ k, k < w.heap.size → v.ownBlock ≠ some k → v'.ownBlock ≠ some k) → wpList P ops Q rest (a.put o.dst v') w') : wpList P ops Q (o :: rest) a w := by
  refine wpList_plain hgd fun K hK => ?_
  obtain ⟨i, hi, z0, z1, z2⟩ := info_parts hz
  obtain ⟨v', w', hr, h2, h3, h4, h5⟩ := append_own_bytes (P := P) w base t u o.type e i hel.1 hu hi z0 z1 z2 v l hown s hbytes hbase
  unfold Oper.wp execOp
  simp only [ho, resolve, invoke, builtin, Sem.run_bind, Sem.run_pure, Result.andThen_ok, List.map_toArray, List.map_cons, List.map_nil, hs, hx, hr]
  exact hK _ _ (h v' w' h2 h3 h4 h5)
end
end Go.Proofs.Ytnhbkfefpkocaaa
