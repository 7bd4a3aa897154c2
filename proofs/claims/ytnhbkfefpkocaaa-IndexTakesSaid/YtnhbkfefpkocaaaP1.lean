/-
  Plain facts on byte strings, lists and worlds, used by all the walks of this seat. No program in sight. Bits of words: the plain law. No function in sight.
-/
import Derived.WalkKit
import Derived.WalkSpells
import Derived.WalkLawsBesides
import Derived.BigQuiet
import Derived.Deep.QuietTactic
namespace Go.Proofs.Ytnhbkfefpkocaaa
open Go.RowKit

/-- A list of bytes as a string's bytes. -/
def ofL (l : List UInt8) : ByteArray := ⟨l.toArray⟩

theorem toList_ofL (l : List UInt8) : (ofL l).toList = l := by rw [ByteArray.toList_eq]; rfl
theorem ofL_toList (s : ByteArray) : ofL s.toList = s := by rw [ByteArray.toList_eq]; rfl
theorem toList_app (s t : ByteArray) : (s ++ t).toList = s.toList ++ t.toList := by
  simp [ByteArray.toList_eq]
theorem toList_ext (s : ByteArray) (i j : Nat) : (s.extract i j).toList = (s.toList.drop i).take (j - i) := by
  simp only [ByteArray.toList_eq, ByteArray.data_extract, Array.toList_extract, List.extract_eq_take_drop]
theorem size_toList (s : ByteArray) : s.toList.length = s.size := by rw [ByteArray.toList_eq]; rfl
theorem toList_nil : (⟨#[]⟩ : ByteArray).toList = [] := toList_ofL []
theorem toList_pre (s : ByteArray) (n : Nat) : (s.extract 0 n).toList = s.toList.take n := by rw [toList_ext]; rfl
theorem toList_suf (s : ByteArray) (k : Nat) : (s.extract k s.size).toList = s.toList.drop k := by
  rw [toList_ext, List.take_of_length_le (by rw [List.length_drop, size_toList]; omega)]
theorem size_ofL (l : List UInt8) : (ofL l).size = l.length := by rw [← size_toList, toList_ofL]
theorem str_eq {s t : ByteArray} (h : s.toList = t.toList) : s = t := by rw [← ofL_toList s, h, ofL_toList]
theorem mk_ofL (l : List UInt8) : (⟨l.toArray⟩ : ByteArray) = ofL l := rfl
theorem ofL_app (s t : List UInt8) : ofL s ++ ofL t = ofL (s ++ t) := str_eq (by simp [toList_app, toList_ofL])
theorem getElem_toList (s : ByteArray) (i : Nat) (h : i < s.size) : s[i] = s.toList[i]'(by rw [size_toList]; exact h) := by
  simp [ByteArray.toList_eq]; rfl
theorem byteVal_str {s t : ByteArray} (h : s.toList = t.toList) : Value.string s = Value.string t := by rw [str_eq h]

/-- The byte of an int: what 'byte(n)' gives, as a byte. -/
def byteOf (n : Int) : UInt8 := UInt8.ofNat (n % 256).toNat
theorem byteOf_toNat (n : Int) : ((byteOf n).toNat : Int) = n % 256 := by
  unfold byteOf
  rw [UInt8.toNat_ofNat']
  omega
theorem byteOf_nat (n : Nat) : byteOf (n : Int) = UInt8.ofNat n := by
  unfold byteOf
  apply UInt8.toNat_inj.1
  rw [UInt8.toNat_ofNat', UInt8.toNat_ofNat']
  omega
theorem byteOf_emod (n : Int) : byteOf (n % 256) = byteOf n := by unfold byteOf; rw [Int.emod_emod_of_dvd _ (Int.dvd_refl _)]

/-- 'bytes -> string' of a slice whose cells are those of a known list. -/
theorem conv_back {P : Program} (w : World) (src dst e : TypeId) (a : Addr) (cap : Nat) (l : List UInt8) (n : Nat) (hn : n = l.length) (hs : P.underlying src = some (.slice e)) (he : P.underlying e = some (.int .u8)) (hd : P.underlying dst = some .string)
    (hc : ∀ j u, (l.map fun b => Value.int .u8 (b.toNat : Int))[j]? = some u → w.cell? (a.add j) = some u) :
    (convert src dst (.slice (some a) n cap)).run P w = .ok (.string (ofL l)) w := by
  subst hn
  exact run_convert_bytes_back w src dst e a cap l hs he hd fun j hj => hc j _ (by simp [hj])

theorem bcell {W w1 : World} (hb : Below W.heap.size W w1) : (∀ b o, b < W.heap.size → w1.cell? ⟨b, o, none⟩ = W.cell? ⟨b, o, none⟩) ∧ (∀ b o, b < W.heap.size → w1.frozen? ⟨b, o, none⟩ = W.frozen? ⟨b, o, none⟩) :=
  ⟨fun b o h => hb.cell (p := ⟨b, o, none⟩) h, fun b o h => hb.frozen (p := ⟨b, o, none⟩) h⟩

theorem add_mk (b o i : Nat) : (⟨b, o, none⟩ : Addr).add i = ⟨b, o + i, none⟩ := by unfold Addr.add; split <;> simp_all

/-- The cells of a slice whose address is A: those of the list xs, one behind the other. -/
def Rd (w : World) (A : Option Addr) (xs : List Value) : Prop :=
  xs ≠ [] → ∃ b o, A = some ⟨b, o, none⟩ ∧ ∀ j u, xs[j]? = some u → w.cell? ⟨b, o + j, none⟩ = some u
theorem Rd.nil (w : World) (A : Option Addr) : Rd w A [] := fun h => absurd rfl h
theorem Rd.keep {w w' : World} {A : Option Addr} {xs : List Value} (h : Rd w A xs) (hk : ∀ b o v, w.cell? ⟨b, o, none⟩ = some v → w'.cell? ⟨b, o, none⟩ = some v) : Rd w' A xs := fun hn => by
  obtain ⟨b, o, e, hc⟩ := h hn
  exact ⟨b, o, e, fun j u hj => hk _ _ _ (hc j u hj)⟩
theorem Rd.below {w w' : World} {A : Option Addr} {xs : List Value} (h : Rd w A xs) (hb : Below w.heap.size w w') : Rd w' A xs :=
  h.keep fun b o v hv => by rw [hb.cell (World.block_lt_of_cell? w _ hv)]; exact hv
theorem Rd.at_ {w : World} {A : Option Addr} {xs : List Value} (h : Rd w A xs) {k : Nat} (hk : k < xs.length) : ∃ b o, A = some ⟨b, o, none⟩ ∧ w.cell? ⟨b, o + k, none⟩ = some xs[k] := by
  obtain ⟨b, o, e, hc⟩ := h (by intro e; rw [e] at hk; simp at hk)
  exact ⟨b, o, e, hc k _ (List.getElem?_eq_getElem hk)⟩
theorem Rd.new (w : World) (t : TypeId) (C : Array Value) : Rd (w.alloc (.cells C t)) (some ⟨w.heap.size, 0, none⟩) C.toList := fun _ =>
  ⟨_, _, rfl, fun j u hj => by rw [World.cell?_alloc_mark]; simpa using hj⟩
theorem Rd.new1 (w : World) (t : TypeId) (v : Value) : Rd (w.alloc (.cells #[v] t)) (some ⟨w.heap.size, 0, none⟩) [v] := Rd.new w t #[v]
theorem below_of_alloc {w w1 : World} {o : Obj} (h : Below (w.alloc o).heap.size (w.alloc o) w1) : Below w.heap.size w w1 :=
  ((Below.refl _ _).alloc (Nat.le_refl _) o).trans (h.mono (by simp))
theorem below_of_drew {w w1 : World} (h : Below w.drew.heap.size w.drew w1) : Below w.heap.size w w1 := ⟨h.os, h.tape, h.output, h.size, h.block⟩
/-- Two calls, one behind the other. -/
theorem below_then {w w1 w2 : World} {B : Nat} (h : Below B w w1) (h2 : Below w1.heap.size w1 w2) (hB : B ≤ w1.heap.size) : Below B w w2 := h.trans (h2.mono hB)

theorem bl {w w1 w2 : World} (h : Below w.heap.size w w1) (h2 : Below w1.heap.size w1 w2) : Below w.heap.size w w2 := below_then h h2 h.size
theorem Rd.take {w : World} {A : Option Addr} {xs : List Value} (h : Rd w A xs) (k : Nat) : Rd w A (xs.take k) := fun hn => by
  obtain ⟨b, o, e, hc⟩ := h (by intro e; rw [e] at hn; simp at hn)
  refine ⟨b, o, e, fun j u hj => hc j u ?_⟩
  rw [List.getElem?_take] at hj
  split at hj
  · exact hj
  · cases hj

/-- Block g is just these cells, none frozen. -/
def Bk (w : World) (g : Nat) (t : TypeId) (cs : Array Value) : Prop := w.heap[g]? = some (.cells cs t (0, 0))
theorem Bk.lt {w : World} {g : Nat} {t : TypeId} {cs : Array Value} (h : Bk w g t cs) : g < w.heap.size := (Array.getElem?_eq_some_iff.1 h).1
theorem Bk.cell {w : World} {g : Nat} {t : TypeId} {cs : Array Value} (h : Bk w g t cs) (i : Nat) : w.cell? ⟨g, i, none⟩ = cs[i]? := cell_of_row w g i cs t (0, 0) h
theorem Bk.frozen {w : World} {g : Nat} {t : TypeId} {cs : Array Value} (h : Bk w g t cs) (i : Nat) : w.frozen? ⟨g, i, none⟩ = false := by
  unfold Bk at h
  simp [World.frozen?, h]
theorem Bk.new (w : World) (t : TypeId) (cs : Array Value) : Bk (w.alloc (.cells cs t)) w.heap.size t cs := heap_alloc_new w _
theorem Bk.alloc {w : World} {g : Nat} {t : TypeId} {cs : Array Value} (h : Bk w g t cs) (o : Obj) : Bk (w.alloc o) g t cs := (Below.heap_alloc w o g h.lt).trans h
theorem Bk.drew {w : World} {g : Nat} {t : TypeId} {cs : Array Value} (h : Bk w g t cs) : Bk w.drew g t cs := h
theorem Bk.set_ {w : World} {g : Nat} {t : TypeId} {cs : Array Value} (h : Bk w g t cs) (i : Nat) (u : Value) : Bk (w.setCell ⟨g, i, none⟩ u) g t (cs.setIfInBounds i u) := by
  unfold Bk at h ⊢
  simp [World.setCell, Array.getElem?_modify, h]
theorem Bk.far {w : World} {g : Nat} {t : TypeId} {cs : Array Value} (h : Bk w g t cs) {p : Addr} (hp : g ≠ p.block) (u : Value) : Bk (w.setCell p u) g t cs := (Below.heap_setCell w p u g hp).trans h
theorem Bk.below {w w' : World} {B g : Nat} {t : TypeId} {cs : Array Value} (h : Bk w g t cs) (hb : Below B w w') (hg : g < B) : Bk w' g t cs := (hb.block g hg).trans h
theorem Bk.below' {w w' : World} {g : Nat} {t : TypeId} {cs : Array Value} (h : Bk w g t cs) (hb : Below w.heap.size w w') : Bk w' g t cs := h.below hb h.lt

/-- What an append wants of the element type: its cells and its bytes. -/
def El (P : Program) (t e : TypeId) (size bytes : Nat) : Prop :=
  P.underlying t = some (.slice e) ∧ 0 < size ∧ ∃ i z, P.info? e = some i ∧ i.zero = some z ∧ i.size = size ∧ i.bytes = bytes ∧ z.cells.size = size
theorem El.mk_ {P : Program} {t e : TypeId} {size bytes : Nat} {z : Value} (ht : P.underlying t = some (.slice e)) (h : (P.info? e).map (fun i => (i.zero, i.size, i.bytes)) = some (some z, size, bytes)) (hs : 0 < size) (hz : z.cells.size = size) : El P t e size bytes := by
  obtain ⟨i0, hi, hz0, hz1, hz2⟩ := info_parts h
  exact ⟨ht, hs, i0, z, hi, hz0, hz1, hz2, hz⟩

/-- Append of one element that was just laid in a block of its own: 'out = append(out, x)'. -/
theorem wpList_append_new {P : Program} (w : World) {ops : Array Oper} {rest : List Oper} {o : Oper} {a : Act} {Q : Exit → Act → World → Prop} (hgd : o.guard = none) (s x : Operand) (t : TypeId)
    (ho : o.op = .call { callee := .builtin .append, args := #[s, x], argTypes := #[t, t] })
    (base : Nat) (e : TypeId) (size bytes : Nat) (hel : El P t e size bytes)
    (v : Value) (n : Nat) (xs : List Value) (hown : w.ownsRow base e size v n xs) (hs : a.eval s = v) (C : Array Value)
    (hx : a.eval x = .slice (some ⟨w.heap.size, 0, none⟩) 1 1) (hC : C.size = size) (h1 : ∀ u ∈ C.toList, u.oneCell' = true)
    (h63 : n + 1 ≤ maxLen) (hbytes : (n + 1) * bytes ≤ 140737488355328) (hbase : base ≤ w.heap.size)
    (h : ∀ v' w', w'.ownsRow base e size v' (n + 1) (xs ++ C.toList) → Below base w w' → wpList P ops Q rest (a.put o.dst v') w') : wpList P ops Q (o :: rest) a (w.alloc (.cells C e)) := by
  obtain ⟨ht, hsz, i, z, hi, hz, hsize, hby, hzs⟩ := hel
  refine wpList_append_own (w.alloc (.cells C e)) hgd s x t ho base e i z size bytes ht hi hz hsize hby hzs hsz v n xs hs (hown.alloc _) ⟨w.heap.size, 0, none⟩ 1 1 C.toList hx (by simp [hC]) ?_ h1 h63 hbytes (by simp; omega) ?_
  · intro j u hj
    rw [add_mk, World.cell?_alloc_mark]
    simpa using hj
  · intro v' w' h2 h3 _
    exact h v' w' h2 (((Below.refl _ _).alloc hbase _).grown h3 (by simp; omega) fun k hk => (hown.lt k hk).1)

/-- Bytes as the cells of a []byte. -/
def byteVals (l : List UInt8) : List Value := l.map fun b => Value.int .u8 (b.toNat : Int)
theorem byteVals_length (l : List UInt8) : (byteVals l).length = l.length := by simp [byteVals]
theorem byteVals_snoc (l : List UInt8) (b : UInt8) (n : Int) (h : (b.toNat : Int) = n) : byteVals l ++ [Value.int .u8 n] = byteVals (l ++ [b]) := by simp [byteVals, h]
/-- 'string(b)' of a slice of the call's own. -/
theorem conv_own {P : Program} {w : World} {base : Nat} {e0 : TypeId} {v : Value} {n : Nat} {l : List UInt8} (hown : w.ownsRow base e0 1 v n (byteVals l)) (src dst e : TypeId)
    (hs : P.underlying src = some (.slice e)) (he : P.underlying e = some (.int .u8)) (hd : P.underlying dst = some .string) : (convert src dst v).run P w = .ok (.string (ofL l)) w := by
  have hn : n = l.length := by have := hown.1; rw [byteVals_length] at this; omega
  rcases hown.2 with ⟨rfl, h0⟩ | ⟨g, cap, cur, rfl, _⟩
  · have : l = [] := List.eq_nil_of_length_eq_zero (by omega)
    subst this
    exact run_convert_bytes_nil w src e hs he 0 0 dst hd
  · exact conv_back w src dst e ⟨g, 0, none⟩ cap l n hn hs he hd (hown.cells (g := g) rfl)

/-- Append of another slice's cells, nil or not: 'out = append(out, src...)'. -/
theorem wpList_append_src {P : Program} (w : World) {ops : Array Oper} {rest : List Oper} {o : Oper} {a : Act} {Q : Exit → Act → World → Prop} (hgd : o.guard = none) (s x : Operand) (t : TypeId)
    (ho : o.op = .call { callee := .builtin .append, args := #[s, x], argTypes := #[t, t] })
    (base : Nat) (e : TypeId) (size bytes : Nat) (hel : El P t e size bytes)
    (v : Value) (n : Nat) (xs : List Value) (hown : w.ownsRow base e size v n xs) (hs : a.eval s = v) (A : Option Addr) (m c : Nat) (news : List Value) (hr : Rd w A news) (hl : news.length = m * size)
    (hx : a.eval x = .slice A m c) (h1 : ∀ u ∈ news, u.oneCell' = true)
    (h63 : n + m ≤ maxLen) (hbytes : (n + m) * bytes ≤ 140737488355328) (hbase : base ≤ w.heap.size)
    (h : ∀ v' w', w'.ownsRow base e size v' (n + m) (xs ++ news) → Below base w w' → wpList P ops Q rest (a.put o.dst v') w') : wpList P ops Q (o :: rest) a w := by
  obtain ⟨ht, hsz, i, z, hi, hz, hsize, hby, hzs⟩ := hel
  cases A with
  | none =>
    have hm : m = 0 := by
      rcases Nat.eq_zero_or_pos m with h0 | h0
      · exact h0
      · obtain ⟨_, _, e, _⟩ := hr (by intro e; rw [e] at hl; have := Nat.mul_pos h0 hsz; simp at hl; omega)
        cases e
    subst hm
    have hn : news = [] := List.eq_nil_of_length_eq_zero (by simpa using hl)
    subst hn
    have hrun : (Builtin.append_ #[t, t] o.type #[v, .slice none 0 c]).run P w = .ok v w := by
      rcases hown.2 with ⟨rfl, rfl⟩ | ⟨g, cap, cur, rfl, _, _, hnc, _⟩
      · simp [Builtin.append_, run_underlying ht, sizeOf, typeInfo, hi, Builtin.lenOf, Builtin.firstCells]
      · simp [Builtin.append_, run_underlying ht, sizeOf, typeInfo, hi, Builtin.lenOf, Builtin.firstCells, hnc, storeCells]
    refine wpList_plain hgd fun K hK => ?_
    unfold Oper.wp
    simp [execOp, ho, resolve, invoke, builtin, hs, hx, hrun, Result.andThen]
    exact hK _ _ (h v w (by simpa using hown) (Below.refl _ _))
  | some ad =>
    refine wpList_append_own w hgd s x t ho base e i z size bytes ht hi hz hsize hby hzs hsz v n xs hs hown ad m c news hx hl ?_ h1 h63 hbytes hbase ?_
    · intro j u hj
      obtain ⟨b, o, e, hc⟩ := hr (by intro e; rw [e] at hj; simp at hj)
      cases e
      rw [add_mk]
      exact hc j u hj
    · intro v' w' h2 h3 _
      exact h v' w' h2 ((Below.refl _ _).grown h3 hbase fun k hk => (hown.lt k hk).1)

/-- A slice's value, by its cells: what a function that reads it wants. -/
def Sl (w : World) (size : Nat) (v : Value) (n : Nat) (xs : List Value) : Prop := xs.length = n * size ∧ ∃ A c, v = .slice A n c ∧ n ≤ c ∧ c ≤ maxLen ∧ Rd w A xs
theorem Sl.below {w w' : World} {size n : Nat} {v : Value} {xs : List Value} (h : Sl w size v n xs) (hb : Below w.heap.size w w') : Sl w' size v n xs := by
  obtain ⟨h1, A, c, h2, h3, h4, h5⟩ := h
  exact ⟨h1, A, c, h2, h3, h4, h5.below hb⟩
theorem Sl.own {w : World} {base size n : Nat} {e : TypeId} {v : Value} {xs : List Value} (h : w.ownsRow base e size v n xs) : Sl w size v n xs := by
  refine ⟨h.1, ?_⟩
  rcases h.2 with ⟨rfl, rfl⟩ | ⟨g, cap, cur, rfl, _, hg, hn, hm, _, ht⟩
  · have : xs = [] := List.eq_nil_of_length_eq_zero (by simpa using h.1)
    subst this
    exact ⟨none, 0, rfl, by omega, by omega, Rd.nil _ _⟩
  · refine ⟨_, cap, rfl, hn, hm, fun _ => ⟨g, 0, rfl, fun j u hj => ?_⟩⟩
    have := h.cells (g := g) rfl j u hj
    rwa [add_mk] at this

/-- A call that returns a slice of n elements with these cells, in new memory; nothing that was there has turned. -/
def RetS (w : World) (n : Nat) (xs : List Value) (e : Ending) (w' : World) : Prop := ∃ A c, e = .returned (.slice A n c) ∧ n ≤ c ∧ c ≤ maxLen ∧ Rd w' A xs ∧ (∀ ad, A = some ad → w.heap.size ≤ ad.block) ∧ Below w.heap.size w w'
theorem RetS.own {w w' : World} {base size n : Nat} {e : TypeId} {v : Value} {xs : List Value} (h : w'.ownsRow base e size v n xs) (hb : Below w.heap.size w w') (hB : w.heap.size ≤ base) : RetS w n xs (.returned v) w' := by
  have hlt := h.lt
  obtain ⟨_, A, c, rfl, h1, h2, h3⟩ := Sl.own h
  exact ⟨A, c, rfl, h1, h2, h3, fun ad hA => by subst hA; exact Nat.le_trans hB (hlt _ rfl).1, hb⟩

/-- The slice's cells lie elsewhere than in block g. -/
def Off (g : Nat) (A : Option Addr) (xs : List Value) : Prop := xs ≠ [] → ∀ ad, A = some ad → ad.block ≠ g
theorem Off.fresh {g B : Nat} {A : Option Addr} {xs : List Value} (h : ∀ ad, A = some ad → B ≤ ad.block) (hg : g < B) : Off g A xs := fun _ ad hA => by have := h ad hA; omega
theorem Off.old {w : World} {g : Nat} {A : Option Addr} {xs : List Value} (h : Rd w A xs) (hg : w.heap.size ≤ g) : Off g A xs := fun hn ad hA => by
  obtain ⟨b, o, e, hc⟩ := h hn
  cases xs with
  | nil => exact absurd rfl hn
  | cons x xs =>
    have := World.block_lt_of_cell? w _ (hc 0 x rfl)
    rw [hA] at e
    cases e
    simp at this ⊢
    omega
theorem only_set (w : World) (g i : Nat) (u : Value) : w.grownBy (w.setCell ⟨g, i, none⟩ u) (some g) :=
  ⟨rfl, rfl, rfl, by simp [World.setCell], fun k _ hne => Below.heap_setCell w _ u k (fun e => hne (by rw [e]))⟩
theorem only_trans {a b c : World} {g : Nat} (h : a.grownBy b (some g)) (h2 : b.grownBy c (some g)) : a.grownBy c (some g) :=
  ⟨h2.os.trans h.os, h2.tape.trans h.tape, h2.output.trans h.output, Nat.le_trans h.size h2.size, fun k hk hne => (h2.block k (Nat.lt_of_lt_of_le hk h.size) hne).trans (h.block k hk hne)⟩
theorem only_drew (w : World) (g : Nat) : w.grownBy w.drew (some g) := ⟨rfl, rfl, rfl, Nat.le_refl _, fun _ _ _ => rfl⟩
theorem Rd.only {w w' : World} {A : Option Addr} {xs : List Value} {g : Nat} (h : Rd w A xs) (hg : w.grownBy w' (some g)) (ho : Off g A xs) : Rd w' A xs := fun hn => by
  obtain ⟨b, o, e, hc⟩ := h hn
  exact ⟨b, o, e, fun j u hj => hg.cell (hc j u hj) (fun e2 => ho hn _ e (by simpa using e2))⟩
theorem Bk.only {w w' : World} {k g : Nat} {t : TypeId} {cs : Array Value} (h : Bk w k t cs) (hg : w.grownBy w' (some g)) (hk : k ≠ g) : Bk w' k t cs := (hg.block k h.lt (by simpa using hk)).trans h
theorem below_only {w w' : World} {B g : Nat} (hg : w.grownBy w' (some g)) (hB : B ≤ g) (hs : B ≤ w.heap.size) : Below B w w' :=
  ⟨hg.os, hg.tape, hg.output, hg.size, fun k hk => hg.block k (by omega) (by simp; omega)⟩
theorem own_below {w w' : World} {base size n : Nat} {e : TypeId} {v : Value} {xs : List Value} (h : w.ownsRow base e size v n xs) (hb : Below w.heap.size w w') : w'.ownsRow base e size v n xs :=
  h.kept (row := none) ⟨hb.os, hb.tape, hb.output, hb.size, fun k hk _ => hb.block k hk⟩ (by cases hv : v.ownBlock <;> simp)
/-- A row of the call's own that is not empty lies in a block that is known. -/
theorem own_block {w : World} {base n : Nat} {e : TypeId} {v : Value} {xs : List Value} (h : w.ownsRow base e 1 v n xs) (hn : 0 < n) : ∃ g cap cur, v = .slice (some ⟨g, 0, none⟩) n cap ∧ base ≤ g ∧ Bk w g e cur ∧ n ≤ cap ∧ cap ≤ maxLen ∧ cur.toList.take n = xs := by
  rcases h.2 with ⟨_, h0⟩ | ⟨g, cap, cur, hv, hb, hg, h1, h2, _, ht⟩
  · omega
  · exact ⟨g, cap, cur, hv, hb, hg, h1, h2, by simpa using ht⟩
theorem Bk.rd {w : World} {g : Nat} {t : TypeId} {cs : Array Value} (h : Bk w g t cs) (n : Nat) : Rd w (some ⟨g, 0, none⟩) (cs.toList.take n) := fun _ =>
  ⟨g, 0, rfl, fun j u hj => by
    rw [List.getElem?_take] at hj
    split at hj
    · rw [Nat.zero_add, h.cell]; simpa using hj
    · cases hj⟩

theorem ret_int {k : IntKind} {a b : Int} (h : a = b) : Ending.returned (.int k a) = .returned (.int k b) := by rw [h]
theorem ret_str {a b : ByteArray} (h : a.toList = b.toList) : Ending.returned (.string a) = .returned (.string b) := by rw [str_eq h]
theorem ret_bool {a b : Bool} (h : a = b) : Ending.returned (.bool a) = .returned (.bool b) := by rw [h]

theorem quiet_sym {P : Program} {f : FuncId} {args : Array Value} {w : World} {n : Nat} {v : Value} (h : Calls P f args (w.drewN n) fun e w' => e = .returned v ∧ w.drewN n = w') :
    Calls P f args (w.drewN n) fun e w' => e = .returned v ∧ ∃ m, w' = w.drewN m :=
  h.mono fun _ _ ⟨a, b⟩ => ⟨a, n, b.symm⟩
theorem wrap64_mul_add (a b : Int) : wrap64 (wrap64 a * 256 + b) = wrap64 (a * 256 + b) := by unfold wrap64; omega
theorem wrap64_id (n : Int) (h1 : -9223372036854775808 ≤ n) (h2 : n ≤ 9223372036854775807) : wrap64 n = n := by unfold wrap64; omega
theorem wrap64_add_wrap (a b : Int) : wrap64 (wrap64 a + b) = wrap64 (a + b) := by unfold wrap64; omega
theorem wrap64_mul256_wrap (a : Int) : wrap64 (wrap64 a * 256) = wrap64 (a * 256) := by unfold wrap64; omega
theorem bitsand255 (n : Int) : bits .and .i64 n 255 = n % 256 := by
  show IntKind.i64.wrap ((BitVec.ofInt 64 n &&& BitVec.ofInt 64 255).toNat : Int) = _
  rw [BitVec.toNat_and, show (BitVec.ofInt 64 255).toNat = 2 ^ 8 - 1 from rfl, Nat.and_two_pow_sub_one_eq_mod, BitVec.toNat_ofInt, IntKind.wrap_i64]
  simp only [Nat.reducePow]
  omega
/-- 'n<<8 | b'. -/
theorem bitsor_byte (n : Int) (b : UInt8) : bits .or .i64 (wrap64 (n * 256)) (b.toNat : Int) = wrap64 (n * 256 + (b.toNat : Int)) := by
  have hb := UInt8.toNat_lt b
  show IntKind.i64.wrap ((BitVec.ofInt 64 (wrap64 (n * 256)) ||| BitVec.ofInt 64 (b.toNat : Int)).toNat : Int) = _
  obtain ⟨m, hm⟩ : ∃ m : Nat, (BitVec.ofInt 64 (wrap64 (n * 256))).toNat = 2 ^ 8 * m ∧ ((2 ^ 8 * m : Nat) : Int) = (n * 256) % 18446744073709551616 := by
    refine ⟨((n * 256) % 18446744073709551616).toNat / 256, ?_, ?_⟩
    · rw [BitVec.toNat_ofInt]; simp only [Nat.reducePow]; unfold wrap64; omega
    · simp only [Nat.reducePow]; omega
  have h2 : (BitVec.ofInt 64 (b.toNat : Int)).toNat = b.toNat := by rw [BitVec.toNat_ofInt]; simp only [Nat.reducePow]; omega
  rw [BitVec.toNat_or, hm.1, h2, ← Nat.two_pow_add_eq_or_of_lt (by omega), IntKind.wrap_i64]
  have := hm.2
  clear hm h2
  unfold wrap64
  generalize 2 ^ 8 * m = q at *
  omega

end Go.Proofs.Ytnhbkfefpkocaaa
namespace Go.Proofs.Ytnhbkfefpkocaaa
open Go.RowKit

theorem w32 (n : Nat) (h : n < 4294967296) : IntKind.u32.wrap (n : Int) = n := by rw [IntKind.wrap_u32]; omega
theorem w63 (n : Nat) (h : n < 9223372036854775808) : IntKind.i64.wrap (n : Int) = n := by rw [IntKind.wrap_i64]; omega
theorem of32 (n : Nat) (h : n < 4294967296) : (BitVec.ofInt 32 (n : Int)).toNat = n := by
  rw [BitVec.toNat_ofInt]; simp only [Nat.reducePow]; omega
theorem of64 (n : Nat) (h : n < 9223372036854775808) : (BitVec.ofInt 64 (n : Int)).toNat = n := by
  rw [BitVec.toNat_ofInt]; simp only [Nat.reducePow]; omega
theorem or32 (a b : Nat) (ha : a < 4294967296) (hb : b < 4294967296) : bits .or .u32 (a : Int) (b : Int) = ((a ||| b : Nat) : Int) := by
  show IntKind.u32.wrap ((BitVec.ofInt 32 (a : Int) ||| BitVec.ofInt 32 (b : Int)).toNat : Int) = _
  rw [BitVec.toNat_or, of32 a ha, of32 b hb]
  exact w32 _ (Nat.or_lt_two_pow (n := 32) ha hb)
theorem and32 (a b : Nat) (ha : a < 4294967296) (hb : b < 4294967296) : bits .and .u32 (a : Int) (b : Int) = ((a &&& b : Nat) : Int) := by
  show IntKind.u32.wrap ((BitVec.ofInt 32 (a : Int) &&& BitVec.ofInt 32 (b : Int)).toNat : Int) = _
  rw [BitVec.toNat_and, of32 a ha, of32 b hb]
  exact w32 _ (Nat.lt_of_le_of_lt Nat.and_le_left ha)
theorem xor32 (a b : Nat) (ha : a < 4294967296) (hb : b < 4294967296) : bits .xor .u32 (a : Int) (b : Int) = ((a ^^^ b : Nat) : Int) := by
  show IntKind.u32.wrap ((BitVec.ofInt 32 (a : Int) ^^^ BitVec.ofInt 32 (b : Int)).toNat : Int) = _
  rw [BitVec.toNat_xor, of32 a ha, of32 b hb]
  exact w32 _ (Nat.xor_lt_two_pow (n := 32) ha hb)
theorem or63 (a b : Nat) (ha : a < 9223372036854775808) (hb : b < 9223372036854775808) : bits .or .i64 (a : Int) (b : Int) = ((a ||| b : Nat) : Int) := by
  show IntKind.i64.wrap ((BitVec.ofInt 64 (a : Int) ||| BitVec.ofInt 64 (b : Int)).toNat : Int) = _
  rw [BitVec.toNat_or, of64 a ha, of64 b hb]
  exact w63 _ (Nat.or_lt_two_pow (n := 63) ha hb)
theorem and63 (a b : Nat) (ha : a < 9223372036854775808) (hb : b < 9223372036854775808) : bits .and .i64 (a : Int) (b : Int) = ((a &&& b : Nat) : Int) := by
  show IntKind.i64.wrap ((BitVec.ofInt 64 (a : Int) &&& BitVec.ofInt 64 (b : Int)).toNat : Int) = _
  rw [BitVec.toNat_and, of64 a ha, of64 b hb]
  exact w63 _ (Nat.lt_of_le_of_lt Nat.and_le_left ha)
theorem xor63 (a b : Nat) (ha : a < 9223372036854775808) (hb : b < 9223372036854775808) : bits .xor .i64 (a : Int) (b : Int) = ((a ^^^ b : Nat) : Int) := by
  show IntKind.i64.wrap ((BitVec.ofInt 64 (a : Int) ^^^ BitVec.ofInt 64 (b : Int)).toNat : Int) = _
  rw [BitVec.toNat_xor, of64 a ha, of64 b hb]
  exact w63 _ (Nat.xor_lt_two_pow (n := 63) ha hb)
/-- The lower 32 bits. -/
theorem low32 (u : Int) : bits .and .i64 u 4294967295 = u % 4294967296 := by
  show IntKind.i64.wrap ((BitVec.ofInt 64 u &&& BitVec.ofInt 64 4294967295).toNat : Int) = _
  rw [BitVec.toNat_and, show (BitVec.ofInt 64 4294967295).toNat = 2 ^ 32 - 1 from rfl, Nat.and_two_pow_sub_one_eq_mod, BitVec.toNat_ofInt, IntKind.wrap_i64]
  simp only [Nat.reducePow]
  omega
/-- A word turned to the right. -/
def rot (x k : Nat) : Nat := x / 2 ^ k ||| x * 2 ^ (32 - k) % 4294967296
theorem rot_lt (x k : Nat) (h : x < 4294967296) : rot x k < 4294967296 :=
  Nat.or_lt_two_pow (n := 32) (Nat.lt_of_le_of_lt (Nat.div_le_self _ _) h) (Nat.mod_lt _ (by decide))
theorem rot32 (x k : Nat) (h : x < 4294967296) : bits .or .u32 ((x : Int) / 2 ^ k) ((x : Int) * 2 ^ (32 - k) % 4294967296) = (rot x k : Nat) := by
  have e1 : (x : Int) / 2 ^ k = ((x / 2 ^ k : Nat) : Int) := by simp
  have e2 : (x : Int) * 2 ^ (32 - k) % 4294967296 = ((x * 2 ^ (32 - k) % 4294967296 : Nat) : Int) := by simp
  rw [e1, e2]
  exact or32 _ _ (Nat.lt_of_le_of_lt (Nat.div_le_self _ _) h) (Nat.mod_lt _ (by decide))
end Go.Proofs.Ytnhbkfefpkocaaa
