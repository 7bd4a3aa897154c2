/-
  For the law DiskKeeps: two rows that grow beside one another; its relations.
-/
import Derived.Test.YtbblmjpjcabfpaaDkP
import Derived.Maps.AppendAt
import Derived.Laws.CopyOwn
namespace Go.Proofs.Ytbblmjpjcabfpaa
open Go.RowKit Go.Maps

/-- Append of one element that was just laid, and where the row then lies. -/
theorem wpList_append_new_at {P : Program} (w : World) {ops : Array Oper} {rest : List Oper} {o : Oper} {a : Act} {Q : Exit → Act → World → Prop} (hgd : o.guard = none) (s x : Operand) (t : TypeId)
    (ho : o.op = .call { callee := .builtin .append, args := #[s, x], argTypes := #[t, t] })
    (base : Nat) (e : TypeId) (size bytes : Nat) (hel : El P t e size bytes)
    (v : Value) (n : Nat) (xs : List Value) (hown : w.ownsRow base e size v n xs) (hs : a.eval s = v) (C : Array Value)
    (hx : a.eval x = .slice (some ⟨w.heap.size, 0, none⟩) 1 1) (hC : C.size = size) (h1 : ∀ u ∈ C.toList, u.oneCell' = true)
    (h63 : n + 1 ≤ maxLen) (hbytes : (n + 1) * bytes ≤ 140737488355328) (hbase : base ≤ w.heap.size)
    (h : ∀ v' w', w'.ownsRow base e size v' (n + 1) (xs ++ C.toList) → w.grownBy w' v.ownBlock → (v'.ownBlock = v.ownBlock ∨ ∃ q, v'.ownBlock = some q ∧ w.heap.size ≤ q) → wpList P ops Q rest (a.put o.dst v') w') : wpList P ops Q (o :: rest) a (w.alloc (.cells C e)) := by
  obtain ⟨ht, hsz, i, z, hi, hz, hsize, hby, hzs⟩ := hel
  refine wpList_append_own_at (w := w.alloc (.cells C e)) hgd s x t ho base e i z size bytes ht hi hz hsize hby hzs hsz v n xs hs (hown.alloc _) ⟨w.heap.size, 0, none⟩ 1 1 C.toList hx (by simp [hC]) ?_ h1 h63 hbytes (by simp; omega) ?_
  · intro j u hj
    rw [add_mk, World.cell?_alloc_mark]
    simpa using hj
  · intro v' w' h2 h3 _ h5
    refine h v' w' h2 ?_ (h5.imp id fun h6 => ⟨_, h6, by simp⟩)
    have h7 := World.grownBy_alloc w (.cells C e) v.ownBlock
    exact ⟨h3.os.trans h7.os, h3.tape.trans h7.tape, h3.output.trans h7.output, Nat.le_trans h7.size h3.size, fun k hk hne => (h3.block k (Nat.lt_of_lt_of_le hk h7.size) hne).trans (h7.block k hk hne)⟩
theorem el_strK : El Try.prog 28 9 1 16 := El.mk_ (z := .string ⟨#[]⟩) Try.underlying28 (by kernel_rfl) (by decide) (by rfl)
/-- Two rows of the call's own, each in a place of its own. -/
structure Two (w wr : World) (B k : Nat) (l : List ByteArray) (u v : Value) : Prop where
  ru : wr.ownsRow B 9 1 u k (strs l)
  rv : wr.ownsRow B 9 1 v k (strs l)
  sep : ∀ q, u.ownBlock = some q → v.ownBlock = some q → False
  nb : Below B w wr
theorem grow_below {w w' : World} {B : Nat} {row : Option Nat} (hg : w.grownBy w' row) (hB : B ≤ w.heap.size) (hr : ∀ q, row = some q → B ≤ q) : Below B w w' :=
  ⟨hg.os, hg.tape, hg.output, hg.size, fun k hk => hg.block k (by omega) (fun e => by have := hr k e.symm; omega)⟩
theorem Two.quiet {w wr w' : World} {B k : Nat} {l : List ByteArray} {u v : Value} (h : Two w wr B k l u v) (hb : Below wr.heap.size wr w') (hB : B ≤ w.heap.size) : Two w w' B k l u v :=
  ⟨own_below h.ru hb, own_below h.rv hb, h.sep, h.nb.trans (hb.mono (Nat.le_trans hB h.nb.size))⟩
/-- The first row has grown. -/
structure Half (w wr : World) (B k : Nat) (l : List ByteArray) (z : ByteArray) (u v : Value) : Prop where
  ru : wr.ownsRow B 9 1 u (k + 1) (strs (l ++ [z]))
  rv : wr.ownsRow B 9 1 v k (strs l)
  sep : ∀ q, u.ownBlock = some q → v.ownBlock = some q → False
  nb : Below B w wr
theorem strs_snoc (l : List ByteArray) (z : ByteArray) : strs l ++ [Value.string z] = strs (l ++ [z]) := by simp [strs]
theorem Two.half {w wr w' : World} {B k : Nat} {l : List ByteArray} {z : ByteArray} {u v u' : Value} (h : Two w wr B k l u v) (hB : B ≤ w.heap.size) (ho : w'.ownsRow B 9 1 u' (k + 1) (strs l ++ [Value.string z])) (hg : wr.grownBy w' u.ownBlock)
    (hl : u'.ownBlock = u.ownBlock ∨ ∃ q, u'.ownBlock = some q ∧ wr.heap.size ≤ q) : Half w w' B k l z u' v := by
  refine ⟨by rw [← strs_snoc]; exact ho, h.rv.kept hg ?_, fun q h1 h2 => ?_, h.nb.trans (grow_below hg (Nat.le_trans hB h.nb.size) fun q hq => (h.ru.lt q hq).1)⟩
  · cases hv : v.ownBlock with
    | none => exact .inl rfl
    | some q => exact .inr fun e => h.sep q e.symm hv
  · rcases hl with e | ⟨p, e, hp⟩
    · exact h.sep q (e.symm.trans h1) h2
    · have := (h.rv.lt q h2).2
      rw [e] at h1
      cases h1
      omega
theorem Half.two {w wr w' : World} {B k : Nat} {l : List ByteArray} {z : ByteArray} {u v v' : Value} (h : Half w wr B k l z u v) (hB : B ≤ w.heap.size) (ho : w'.ownsRow B 9 1 v' (k + 1) (strs l ++ [Value.string z])) (hg : wr.grownBy w' v.ownBlock)
    (hl : v'.ownBlock = v.ownBlock ∨ ∃ q, v'.ownBlock = some q ∧ wr.heap.size ≤ q) : Two w w' B (k + 1) (l ++ [z]) u v' := by
  refine ⟨h.ru.kept hg ?_, by rw [← strs_snoc]; exact ho, fun q h1 h2 => ?_, h.nb.trans (grow_below hg (Nat.le_trans hB h.nb.size) fun q hq => (h.rv.lt q hq).1)⟩
  · cases hu : u.ownBlock with
    | none => exact .inl rfl
    | some q => exact .inr fun e => h.sep q hu e.symm
  · rcases hl with e | ⟨p, e, hp⟩
    · exact h.sep q h1 (e.symm.trans h2)
    · have := (h.ru.lt q h1).2
      rw [e] at h2
      cases h2
      omega
/-- A row of texts in a block. -/
def Row (w : World) (q : Nat) (l : List ByteArray) : Prop := ∃ cur : Array Value, Bk w q 9 cur ∧ cur.toList.take l.length = strs l
theorem Row.lt {w : World} {q : Nat} {l : List ByteArray} (h : Row w q l) : q < w.heap.size := by obtain ⟨_, h, _⟩ := h; exact h.lt
theorem Row.below' {w w' : World} {q : Nat} {l : List ByteArray} (h : Row w q l) (hb : Below w.heap.size w w') : Row w' q l := by
  obtain ⟨cur, h1, h2⟩ := h
  exact ⟨cur, h1.below' hb, h2⟩
theorem Row.keep3 {w w' : World} {q b g m : Nat} {l : List ByteArray} (h : Row w q l) (hk : Keep3 b g m w w') (h1 : q ≠ b) (h2 : q ≠ g) (h3 : q ≠ m) : Row w' q l := by
  obtain ⟨cur, h4, h5⟩ := h
  exact ⟨cur, (hk.2.2.2.2 q h4.lt h1 h2 h3).trans h4, h5⟩
theorem Row.at_ {w : World} {q : Nat} {l : List ByteArray} (h : Row w q l) {i : Nat} {s : ByteArray} (hs : l[i]? = some s) : w.cell? ⟨q, i, none⟩ = some (.string s) ∧ w.frozen? ⟨q, i, none⟩ = false := by
  obtain ⟨cur, h1, h2⟩ := h
  refine ⟨?_, h1.frozen i⟩
  have h3 : (strs l)[i]? = some (.string s) := by unfold strs; rw [List.getElem?_map, hs]; rfl
  rw [← h2, List.getElem?_take] at h3
  split at h3
  · rw [h1.cell]; simpa using h3
  · cases h3
theorem Row.set_ {w : World} {q : Nat} {l : List ByteArray} (h : Row w q l) (i : Nat) (s : ByteArray) : Row (w.setCell ⟨q, i, none⟩ (.string s)) q (l.set i s) := by
  obtain ⟨cur, h1, h2⟩ := h
  refine ⟨_, h1.set_ i _, ?_⟩
  rw [Array.toList_setIfInBounds, List.length_set, List.take_set, h2]
  unfold strs
  rw [List.map_set]
theorem Row.far {w : World} {q : Nat} {l : List ByteArray} (h : Row w q l) {p : Addr} (hp : q ≠ p.block) (u : Value) : Row (w.setCell p u) q l := by
  obtain ⟨cur, h1, h2⟩ := h
  exact ⟨cur, h1.far hp u, h2⟩
theorem info_strS : (Try.prog.info? 9).map (·.size) = some 1 := by kernel_rfl
/-- 'copy(a, c)' of two rows of like length. -/
theorem wpList_copy_rows (w : World) {ops : Array Oper} {rest : List Oper} {o : Oper} {a : Act} {Q : Exit → Act → World → Prop} (hgd : o.guard = none) (d s : Operand)
    (ho : o.op = .call { callee := .builtin .copy, args := #[d, s], argTypes := #[28, 28] })
    (q7 q8 n cap7 cap8 : Nat) (l7 l8 : List ByteArray) (h7 : Row w q7 l7) (h8 : Row w q8 l8) (e7 : l7.length = n) (e8 : l8.length = n) (hd : a.eval d = .slice (some ⟨q7, 0, none⟩) n cap7) (hs : a.eval s = .slice (some ⟨q8, 0, none⟩) n cap8)
    (h : ∀ w', w.grownBy w' (some q7) → Row w' q7 l8 → wpList Try.prog ops Q rest (a.put o.dst (goInt n)) w') : wpList Try.prog ops Q (o :: rest) a w := by
  obtain ⟨cur, h1, h2⟩ := h7
  have hsz : n ≤ cur.size := by
    have h8 : (cur.toList.take l7.length).length = n := by rw [h2]; simp [strs, e7]
    rw [List.length_take] at h8
    have h9 : cur.toList.length = cur.size := rfl
    omega
  have hl : (strs l8).length = n := by simp [strs, e8]
  refine wpList_copy_own hgd d s 28 28 ho 9 Try.underlying28 info_strS q7 0 n cap7 ⟨q8, 0, none⟩ n cap8 hd hs cur 9 h1 (strs l8) (by rw [hl]; exact (Nat.min_self n).symm) (fun j v hj => ?_) (by omega) (fun v hv => ?_) ?_
  · unfold strs at hj
    rw [List.getElem?_map] at hj
    rcases hl8 : l8[j]? with _ | t
    · rw [hl8] at hj; cases hj
    · rw [hl8] at hj
      cases hj
      rw [add_mk, Nat.zero_add]
      exact (h8.at_ hl8).1
  · unfold strs at hv
    obtain ⟨t, _, rfl⟩ := List.mem_map.1 hv
    rfl
  · rw [hl]
    refine h _ ⟨rfl, rfl, rfl, by simp [World.setRow], fun k hk hne => setRow_other w q7 k _ (fun e => hne (by rw [e]))⟩ ⟨_, setRow_heap w q7 _ _ 9 _ h1, ?_⟩
    rw [List.toList_toArray, List.take_zero, List.nil_append, List.take_append_of_le_length (by rw [hl]; omega), List.take_of_length_le (by rw [hl]; omega)]
end Go.Proofs.Ytbblmjpjcabfpaa
