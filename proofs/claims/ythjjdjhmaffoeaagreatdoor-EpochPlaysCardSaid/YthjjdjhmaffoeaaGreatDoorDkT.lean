/-
  The reference's disk in memory: burn, Read, Write, SetFuse.
-/
import Derived.Test.YthjjdjhmaffoeaaGreatDoorDkS
import Derived.Deep.RegionHeld3
namespace Go.Proofs.YthjjdjhmaffoeaaGreatDoor
open Go.RowKit

def bools (l : List Bool) : List Value := l.map Value.bool
/-- A row of booleans in a block. -/
def RowB (w : World) (q : Nat) (l : List Bool) : Prop := ∃ cur : Array Value, Bk w q 4 cur ∧ cur.toList.take l.length = bools l
theorem RowB.lt {w : World} {q : Nat} {l : List Bool} (h : RowB w q l) : q < w.heap.size := by obtain ⟨_, h, _⟩ := h; exact h.lt
theorem RowB.same {w w' : World} {q : Nat} {l : List Bool} (h : RowB w q l) (hb : w'.heap[q]? = w.heap[q]?) : RowB w' q l := by
  obtain ⟨cur, h1, h2⟩ := h
  exact ⟨cur, hb.trans h1, h2⟩
theorem Row.same {w w' : World} {q : Nat} {l : List ByteArray} (h : Row w q l) (hb : w'.heap[q]? = w.heap[q]?) : Row w' q l := by
  obtain ⟨cur, h1, h2⟩ := h
  exact ⟨cur, hb.trans h1, h2⟩
theorem RowB.at_ {w : World} {q : Nat} {l : List Bool} (h : RowB w q l) {i : Nat} {s : Bool} (hs : l[i]? = some s) : w.cell? ⟨q, i, none⟩ = some (.bool s) ∧ w.frozen? ⟨q, i, none⟩ = false := by
  obtain ⟨cur, h1, h2⟩ := h
  refine ⟨?_, h1.frozen i⟩
  have h3 : (bools l)[i]? = some (.bool s) := by unfold bools; rw [List.getElem?_map, hs]; rfl
  rw [← h2, List.getElem?_take] at h3
  split at h3
  · rw [h1.cell]; simpa using h3
  · cases h3
theorem RowB.set_ {w : World} {q : Nat} {l : List Bool} (h : RowB w q l) (i : Nat) (s : Bool) : RowB (w.setCell ⟨q, i, none⟩ (.bool s)) q (l.set i s) := by
  obtain ⟨cur, h1, h2⟩ := h
  refine ⟨_, h1.set_ i _, ?_⟩
  rw [Array.toList_setIfInBounds, List.length_set, List.take_set, h2]
  unfold bools
  rw [List.map_set]
theorem set_same (w : World) (g i : Nat) (u : Value) {q : Nat} (hq : q ≠ g) : (w.setCell ⟨g, i, none⟩ u).heap[q]? = w.heap[q]? := Below.heap_setCell w _ u q hq
/-- The reference's disk. -/
structure RefAt (w : World) (b go gl gf c1 c2 c3 : Nat) (S : St) (n : Nat) : Prop where
  bk : Bk w b 52 #[.slice (some ⟨go, 0, none⟩) n c1, .slice (some ⟨gl, 0, none⟩) n c2, .slice (some ⟨gf, 0, none⟩) n c3, .int .i64 S.fuse, .bool S.dead]
  ro : Row w go S.old
  rl : Row w gl S.lst
  rf : RowB w gf S.fresh
  ne : (b ≠ go ∧ b ≠ gl ∧ b ≠ gf) ∧ (go ≠ gl ∧ go ≠ gf ∧ gl ≠ gf)
  ok : S.Ok n
  n1 : 1 ≤ n
  n2 : n ≤ 1024
  fu : S.fuse ≤ 9223372036854775807
theorem RefAt.same {w w' : World} {b go gl gf c1 c2 c3 n : Nat} {S : St} (h : RefAt w b go gl gf c1 c2 c3 S n) (hk : ∀ k, k = b ∨ k = go ∨ k = gl ∨ k = gf → w'.heap[k]? = w.heap[k]?) : RefAt w' b go gl gf c1 c2 c3 S n :=
  ⟨(hk b (by simp)).trans h.bk, h.ro.same (hk go (by simp)), h.rl.same (hk gl (by simp)), h.rf.same (hk gf (by simp)), h.ne, h.ok, h.n1, h.n2, h.fu⟩
theorem RefAt.lt {w : World} {b go gl gf c1 c2 c3 n : Nat} {S : St} (h : RefAt w b go gl gf c1 c2 c3 S n) : ∀ k, k = b ∨ k = go ∨ k = gl ∨ k = gf → k < w.heap.size := by
  rintro k (rfl | rfl | rfl | rfl)
  · exact h.bk.lt
  · exact h.ro.lt
  · exact h.rl.lt
  · exact h.rf.lt
theorem RefAt.below {w w' : World} {b go gl gf c1 c2 c3 n : Nat} {S : St} (h : RefAt w b go gl gf c1 c2 c3 S n) (hb : Below w.heap.size w w') : RefAt w' b go gl gf c1 c2 c3 S n := h.same fun k hk => hb.block k (h.lt k hk)
/-- What a deed on the reference's disk leaves as it was. -/
def Keep4 (b go gl gf : Nat) (w w' : World) : Prop := w'.os = w.os ∧ w'.tape = w.tape ∧ w'.output = w.output ∧ w.heap.size ≤ w'.heap.size ∧ ∀ k, k < w.heap.size → k ≠ b → k ≠ go → k ≠ gl → k ≠ gf → w'.heap[k]? = w.heap[k]?
theorem Keep4.refl (b go gl gf : Nat) (w : World) : Keep4 b go gl gf w w := ⟨rfl, rfl, rfl, Nat.le_refl _, fun _ _ _ _ _ _ => rfl⟩
theorem Keep4.of_below {b go gl gf : Nat} {w w' : World} (h : Below w.heap.size w w') : Keep4 b go gl gf w w' := ⟨h.os, h.tape, h.output, h.size, fun k hk _ _ _ _ => h.block k hk⟩
theorem Keep4.trans {b go gl gf : Nat} {w w' w'' : World} (h : Keep4 b go gl gf w w') (h2 : Keep4 b go gl gf w' w'') : Keep4 b go gl gf w w'' :=
  ⟨h2.1.trans h.1, h2.2.1.trans h.2.1, h2.2.2.1.trans h.2.2.1, Nat.le_trans h.2.2.2.1 h2.2.2.2.1, fun k hk a b' c d => (h2.2.2.2.2 k (Nat.lt_of_lt_of_le hk h.2.2.2.1) a b' c d).trans (h.2.2.2.2 k hk a b' c d)⟩
theorem Keep4.of_only {b go gl gf x : Nat} {w w' : World} (h : w.grownBy w' (some x)) (hx : x = b ∨ x = go ∨ x = gl ∨ x = gf) : Keep4 b go gl gf w w' :=
  ⟨h.os, h.tape, h.output, h.size, fun k hk h1 h2 h3 h4 => h.block k hk (by simp; rcases hx with rfl | rfl | rfl | rfl <;> assumption)⟩
theorem Keep4.set_ (b go gl gf : Nat) (w : World) (x i : Nat) (u : Value) (hx : x = b ∨ x = go ∨ x = gl ∨ x = gf) : Keep4 b go gl gf w (w.setCell ⟨x, i, none⟩ u) := Keep4.of_only (only_set w x i u) hx
theorem Keep4.below {b go gl gf B : Nat} {w w' : World} (h : Keep4 b go gl gf w w') (hB : B ≤ w.heap.size) (h1 : B ≤ b) (h2 : B ≤ go) (h3 : B ≤ gl) (h4 : B ≤ gf) : Below B w w' :=
  ⟨h.1, h.2.1, h.2.2.1, h.2.2.2.1, fun k hk => h.2.2.2.2 k (by omega) (by omega) (by omega) (by omega) (by omega)⟩

section
variable {w : World} {b go gl gf c1 c2 c3 n : Nat} {S : St}
theorem RefAt.cells (h : RefAt w b go gl gf c1 c2 c3 S n) :
    w.cell? ⟨b, 0, none⟩ = some (.slice (some ⟨go, 0, none⟩) n c1) ∧ w.cell? ⟨b, 1, none⟩ = some (.slice (some ⟨gl, 0, none⟩) n c2) ∧ w.cell? ⟨b, 2, none⟩ = some (.slice (some ⟨gf, 0, none⟩) n c3) ∧ w.cell? ⟨b, 3, none⟩ = some (.int .i64 S.fuse) ∧ w.cell? ⟨b, 4, none⟩ = some (.bool S.dead) ∧ w.frozen? ⟨b, 3, none⟩ = false ∧ w.frozen? ⟨b, 4, none⟩ = false := by
  have p0 := h.bk.cell 0
  have p1 := h.bk.cell 1
  have p2 := h.bk.cell 2
  have p3 := h.bk.cell 3
  have p4 := h.bk.cell 4
  simp only [List.getElem?_toArray, List.getElem?_cons_succ, List.getElem?_cons_zero] at p0 p1 p2 p3 p4
  exact ⟨p0, p1, p2, p3, p4, h.bk.frozen 3, h.bk.frozen 4⟩
theorem RefAt.die (h : RefAt w b go gl gf c1 c2 c3 S n) : RefAt (w.setCell ⟨b, 4, none⟩ (.bool true)) b go gl gf c1 c2 c3 S.die n := by
  have h4 := h.bk.set_ 4 (.bool true)
  simp only [List.setIfInBounds_toArray, List.set_cons_succ, List.set_cons_zero] at h4
  exact ⟨h4, h.ro.same (set_same _ _ _ _ h.ne.1.1.symm), h.rl.same (set_same _ _ _ _ h.ne.1.2.1.symm), h.rf.same (set_same _ _ _ _ h.ne.1.2.2.symm), h.ne, h.ok.die, h.n1, h.n2, h.fu⟩
theorem RefAt.fuseTo (h : RefAt w b go gl gf c1 c2 c3 S n) (f : Int) (h1 : -1 ≤ f) (h2 : f ≤ 9223372036854775807) : RefAt (w.setCell ⟨b, 3, none⟩ (.int .i64 f)) b go gl gf c1 c2 c3 { S with fuse := f } n := by
  have h4 := h.bk.set_ 3 (.int .i64 f)
  simp only [List.setIfInBounds_toArray, List.set_cons_succ, List.set_cons_zero] at h4
  exact ⟨h4, h.ro.same (set_same _ _ _ _ h.ne.1.1.symm), h.rl.same (set_same _ _ _ _ h.ne.1.2.1.symm), h.rf.same (set_same _ _ _ _ h.ne.1.2.2.symm), h.ne, ⟨h.ok.lo, h.ok.ll, h.ok.lf, h.ok.same, h.ok.zo, h.ok.zl, h1⟩, h.n1, h.n2, h2⟩
theorem RefAt.put (h : RefAt w b go gl gf c1 c2 c3 S n) {i : Nat} (hi : i < n) (t : ByteArray) (ht : t.size = 256) :
    RefAt ((w.setCell ⟨gl, i, none⟩ (.string t)).setCell ⟨gf, i, none⟩ (.bool true)) b go gl gf c1 c2 c3 { S with lst := S.lst.set i t, fresh := S.fresh.set i true } n := by
  obtain ⟨⟨n1, n2, n3⟩, n4, n5, n6⟩ := h.ne
  have hil : i < S.fresh.length := by rw [h.ok.lf]; exact hi
  refine ⟨(h.bk.far (p := ⟨gl, i, none⟩) n2 _).far (p := ⟨gf, i, none⟩) n3 _, (h.ro.same (set_same _ _ _ _ n4)).same (set_same _ _ _ _ n5), (h.rl.set_ i t).same (set_same _ _ _ _ n6), (h.rf.same (set_same _ _ _ _ n6.symm)).set_ i true, h.ne, ?_, h.n1, h.n2, h.fu⟩
  refine ⟨h.ok.lo, by simp [h.ok.ll], by simp [h.ok.lf], fun j hj => ?_, h.ok.zo, fun x hx => ?_, h.ok.fuse⟩
  · simp only at hj ⊢
    by_cases hji : i = j
    · subst hji
      rw [List.getElem?_set_self hil] at hj
      cases hj
    · rw [List.getElem?_set_ne hji] at hj
      rw [List.getElem?_set_ne hji]
      exact h.ok.same j hj
  · simp only at hx
    rcases List.mem_or_eq_of_mem_set hx with hx | hx
    · exact h.ok.zl x hx
    · rw [hx]; exact ht
end

set_option maxRecDepth 20000 in
set_option maxHeartbeats 1000000 in
theorem rburn_dead (w : World) (b : Nat) (h : w.cell? ⟨b, 3, none⟩ = some (.int .i64 0)) (v : Bool) (h3 : w.cell? ⟨b, 4, none⟩ = some (.bool v)) (f3 : w.frozen? ⟨b, 4, none⟩ = false) :
    Calls Tryz.prog 35 #[.pointer (some ⟨b, 0, none⟩)] w fun e w' => e = .returned (.bool false) ∧ w' = w.setCell ⟨b, 4, none⟩ (.bool true) := by
  go_enter Tryz.func35, Tryz.ntmps35
  go_wp2_with fail
  go_ret
  exact ⟨rfl, rfl⟩
set_option maxRecDepth 20000 in
set_option maxHeartbeats 1000000 in
theorem rburn_live (w : World) (b go gl gf c1 c2 c3 : Nat) (S : St) (n : Nat) (h : RefAt w b go gl gf c1 c2 c3 S n) (hf : S.fuse ≠ 0) :
    Calls Tryz.prog 35 #[.pointer (some ⟨b, 0, none⟩)] w fun e w' => e = .returned (.bool true) ∧ RefAt w' b go gl gf c1 c2 c3 { S with fuse := burn S.fuse } n ∧ Keep4 b go gl gf w w' := by
  have HR := Lib.hid h
  obtain ⟨_, _, _, p3, _, f3, _⟩ := h.cells
  have hf1 := h.ok.fuse
  have hf2 := h.fu
  clear h
  by_cases hp : 0 < S.fuse
  · have hf0 : (S.fuse == 0) = false := by simp [hf]
    have hw : IntKind.i64.wrap (S.fuse - 1) = S.fuse - 1 := by rw [IntKind.wrap_i64]; omega
    have HB := Lib.hid (show burn S.fuse = S.fuse - 1 by unfold burn; omega)
    clear hf
    go_enter Tryz.func35, Tryz.ntmps35
    go_wp2_with fail
    go_ret
    rw [HB.out]
    exact ⟨rfl, HR.out.fuseTo _ (by omega) (by omega), Keep4.set_ _ _ _ _ _ _ _ _ (.inl rfl)⟩
  · have hfm : S.fuse = -1 := by omega
    have HS := Lib.hid (show ({ S with fuse := burn S.fuse } : St) = S by
      have hb : burn S.fuse = S.fuse := by unfold burn; omega
      rw [hb])
    rw [hfm] at p3
    clear hf hp hfm hf1 hf2
    go_enter Tryz.func35, Tryz.ntmps35
    go_wp2_with fail
    go_ret
    rw [HS.out]
    exact ⟨rfl, HR.out, Keep4.refl _ _ _ _ _⟩

set_option maxRecDepth 20000 in
set_option maxHeartbeats 1000000 in
theorem rfuse_any (w : World) (b go gl gf c1 c2 c3 : Nat) (S : St) (n : Nat) (h : RefAt w b go gl gf c1 c2 c3 S n) (k : Int) (hk2 : k ≤ 9223372036854775807) :
    Calls Tryz.prog 11 #[.pointer (some ⟨b, 0, none⟩), .int .i64 k] w fun e w' => e = .returned (.tuple #[]) ∧ RefAt w' b go gl gf c1 c2 c3 (S.setFuse k) n ∧ Keep4 b go gl gf w w' := by
  have HD := Lib.hid h
  obtain ⟨_, _, _, _, p4, f3, _⟩ := h.cells
  have p3 := h.cells.2.2.2.1
  clear h
  cases hd : S.dead with
  | true =>
    have HR := Lib.hid (show S.setFuse k = S by unfold St.setFuse; rw [hd]; rfl)
    rw [hd] at p4
    clear hd
    go_enter Tryz.func11, Tryz.ntmps11
    go_wp2_with fail
    refine bodyPost_ret (results_none rfl _ _ _) rfl ?_
    exact ⟨rfl, by rw [HR.out]; exact HD.out, Keep4.refl _ _ _ _ _⟩
  | false =>
    have HR := Lib.hid (show S.setFuse k = { S with fuse := max k (-1) } by unfold St.setFuse; rw [hd]; rfl)
    rw [hd] at p4
    clear hd
    by_cases hk0 : k < 0
    · have HM := Lib.hid (show max k (-1) = -1 by omega)
      go_enter Tryz.func11, Tryz.ntmps11
      go_wp2_with fail
      go_end0
      rw [HR.out, HM.out]
      exact ⟨rfl, HD.out.fuseTo _ (by omega) (by omega), Keep4.set_ _ _ _ _ _ _ _ _ (.inl rfl)⟩
    · have HM := Lib.hid (show max k (-1) = k by omega)
      go_enter Tryz.func11, Tryz.ntmps11
      go_wp2_with fail
      go_end0
      rw [HR.out, HM.out]
      exact ⟨rfl, HD.out.fuseTo _ (by omega) (by omega), Keep4.set_ _ _ _ _ _ _ _ _ (.inl rfl)⟩

/-- May a sector be asked for: the three ways. -/
theorem may_ways {S : St} {n : Nat} (h : S.Ok n) (i : Int) : (S.dead = true ∧ S.may i = 7) ∨ (S.dead = false ∧ i < 0 ∧ S.may i = 10) ∨ (S.dead = false ∧ 0 ≤ i ∧ (n : Int) ≤ i ∧ S.may i = 10) ∨ (S.dead = false ∧ ∃ j : Nat, i = j ∧ j < n ∧ S.may i = 0) := by
  cases hd : S.dead with
  | true => exact .inl ⟨rfl, by unfold St.may; rw [hd]; rfl⟩
  | false =>
    right
    by_cases h0 : i < 0
    · exact .inl ⟨rfl, h0, by rw [St.may_out h (.inl h0), hd]; rfl⟩
    · right
      by_cases h1 : (n : Int) ≤ i
      · exact .inl ⟨rfl, by omega, h1, by rw [St.may_out h (.inr h1), hd]; rfl⟩
      · exact .inr ⟨rfl, i.toNat, by omega, by omega, by rw [St.may_ok h (by omega) (by omega), hd]; rfl⟩

set_option maxRecDepth 20000 in
set_option maxHeartbeats 2000000 in
theorem rread_any (w : World) (b go gl gf c1 c2 c3 : Nat) (S : St) (n : Nat) (h : RefAt w b go gl gf c1 c2 c3 S n) (i : Int) :
    Calls Tryz.prog 30 #[.pointer (some ⟨b, 0, none⟩), .int .i64 i] w fun e w' => e = .returned (.tuple #[.string (S.rd i).1, .int .i64 (S.rd i).2]) ∧ Below w.heap.size w w' := by
  obtain ⟨p0, p1, _, _, p4, _, _⟩ := h.cells
  rcases may_ways h.ok i with ⟨hd, hm⟩ | ⟨hd, h0, hm⟩ | ⟨hd, h0, h1, hm⟩ | ⟨hd, j, rfl, hj, hm⟩
  · have HR := Lib.hid (show S.rd i = (⟨#[]⟩, 7) by unfold St.rd; rw [hm, if_neg (by simp)])
    rw [hd] at p4
    clear h hd hm
    go_enter Tryz.func30, Tryz.ntmps30
    go_wp2_with fail
    go_ret2
    exact ⟨by rw [HR.out]; rfl, Below.refl _ _⟩
  · have HR := Lib.hid (show S.rd i = (⟨#[]⟩, 10) by unfold St.rd; rw [hm, if_neg (by simp)])
    rw [hd] at p4
    clear h hd hm
    go_enter Tryz.func30, Tryz.ntmps30
    go_wp2_with fail
    go_ret2
    exact ⟨by rw [HR.out]; rfl, Below.refl _ _⟩
  · have HR := Lib.hid (show S.rd i = (⟨#[]⟩, 10) by unfold St.rd; rw [hm, if_neg (by simp)])
    rw [hd] at p4
    have h2 : ¬ i < 0 := by omega
    clear h hd hm
    go_enter Tryz.func30, Tryz.ntmps30
    go_wp2_with fail
    go_ret2
    exact ⟨by rw [HR.out]; rfl, Below.refl _ _⟩
  · obtain ⟨t, ht⟩ : ∃ t, S.lst[j]? = some t := ⟨_, List.getElem?_eq_getElem (by rw [h.ok.ll]; exact hj)⟩
    have HR := Lib.hid (show S.rd (j : Int) = (t, 0) by unfold St.rd; rw [hm, if_pos rfl, Int.toNat_natCast, ht]; rfl)
    have q1 := (h.rl.at_ ht).1
    have h2 : ¬ (j : Int) < 0 := by omega
    have h3 : ¬ (n : Int) ≤ (j : Int) := by omega
    have h4 : (0 : Int) ≤ (j : Int) := by omega
    have h5 : (j : Int) < (n : Int) := by omega
    rw [hd] at p4
    clear h hd hm ht hj
    go_enter Tryz.func30, Tryz.ntmps30
    go_wp2_with fail
    go_ret2
    exact ⟨by rw [HR.out]; rfl, Below.refl _ _⟩

set_option maxRecDepth 20000 in
set_option maxHeartbeats 4000000 in
theorem rwrite_any (w : World) (b go gl gf c1 c2 c3 : Nat) (S : St) (n : Nat) (h : RefAt w b go gl gf c1 c2 c3 S n) (i : Int) (s : ByteArray) :
    Calls Tryz.prog 13 #[.pointer (some ⟨b, 0, none⟩), .int .i64 i, .string s] w fun e w' => e = .returned (.int .i64 (S.wr i s).2) ∧ RefAt w' b go gl gf c1 c2 c3 (S.wr i s).1 n ∧ Keep4 b go gl gf w w' := by
  obtain ⟨p0, p1, p2, p3, p4, f3, f4⟩ := h.cells
  have HD := Lib.hid h
  rcases may_ways h.ok i with ⟨hd, hm⟩ | ⟨hd, h0, hm⟩ | ⟨hd, h0, h1, hm⟩ | ⟨hd, j, rfl, hj, hm⟩
  · have HR := Lib.hid (St.wr_may (s := s) hm (by decide))
    rw [hd] at p4
    clear h hd hm
    go_enter Tryz.func13, Tryz.ntmps13
    go_wp2_with fail
    go_ret
    rw [HR.out]
    exact ⟨rfl, HD.out, Keep4.refl _ _ _ _ _⟩
  · have HR := Lib.hid (St.wr_may (s := s) hm (by decide))
    rw [hd] at p4
    clear h hd hm
    go_enter Tryz.func13, Tryz.ntmps13
    go_wp2_with fail
    go_ret
    rw [HR.out]
    exact ⟨rfl, HD.out, Keep4.refl _ _ _ _ _⟩
  · have HR := Lib.hid (St.wr_may (s := s) hm (by decide))
    rw [hd] at p4
    have h2 : ¬ i < 0 := by omega
    clear h hd hm
    go_enter Tryz.func13, Tryz.ntmps13
    go_wp2_with fail
    go_ret
    rw [HR.out]
    exact ⟨rfl, HD.out, Keep4.refl _ _ _ _ _⟩
  · have h2 : ¬ (j : Int) < 0 := by omega
    have h3 : ¬ (n : Int) ≤ (j : Int) := by omega
    have h4 : (0 : Int) ≤ (j : Int) := by omega
    have h5 : (j : Int) < (n : Int) := by omega
    rw [hd] at p4
    by_cases hs : 256 < s.size
    · have HR := Lib.hid (St.wr_big (s := s) hm hs)
      have hs1 : (256 : Int) < (s.size : Int) := by omega
      clear h hd hm hj
      go_enter Tryz.func13, Tryz.ntmps13
      go_wp2_with fail
      go_ret
      rw [HR.out]
      exact ⟨rfl, HD.out, Keep4.refl _ _ _ _ _⟩
    · have hs1 : ¬ (256 : Int) < (s.size : Int) := by omega
      by_cases hf : S.fuse = 0
      · have HR := Lib.hid (St.wr_die (s := s) hm hs hf)
        rw [hf] at p3
        clear h hd hm hj hf hs
        go_enter Tryz.func13, Tryz.ntmps13
        go_wp2_with fail
        (with_reducible refine (rburn_dead w b p3 _ p4 f4).mono ?_)
        rintro e w1 ⟨rfl, rfl⟩
        go_wp2_with fail
        go_ret
        rw [HR.out]
        exact ⟨rfl, HD.out.die, Keep4.set_ _ _ _ _ _ _ _ _ (.inl rfl)⟩
      · have HR := Lib.hid (St.wr_ok (s := s) hm hs hf)
        have HF := Lib.hid hf
        have HS := Lib.hid hs
        have HJ := Lib.hid hj
        clear h hd hm hj hf hs p3 f3 f4
        go_enter Tryz.func13, Tryz.ntmps13
        go_wp2_with fail
        (with_reducible refine (rburn_live w b go gl gf c1 c2 c3 S n HD.out HF.out).mono ?_)
        rintro e w1 ⟨rfl, hR1, hK1⟩
        clear p0 p1 p2 p4
        obtain ⟨t, ht⟩ : ∃ t, ({ S with fuse := burn S.fuse } : St).lst[j]? = some t := ⟨_, List.getElem?_eq_getElem (by rw [hR1.ok.ll]; exact HJ.out)⟩
        obtain ⟨tf, htf⟩ : ∃ t, ({ S with fuse := burn S.fuse } : St).fresh[j]? = some t := ⟨_, List.getElem?_eq_getElem (by rw [hR1.ok.lf]; exact HJ.out)⟩
        have p1 := hR1.cells.2.1
        have p1d : w1.drew.cell? ⟨b, 1, none⟩ = some (.slice (some ⟨gl, 0, none⟩) n c2) := p1
        have HR1 := Lib.hid hR1
        have HK1 := Lib.hid hK1
        have HT := Lib.hid ht
        have HTF := Lib.hid htf
        obtain ⟨z, hz⟩ : ∃ z, fillS s = z := ⟨_, rfl⟩
        have HFL : Hid (∀ w', Calls Tryz.prog 22 #[.string s] w' fun e w'' => e = .returned (.string z) ∧ Below w'.heap.size w' w'') := Lib.hid fun w' => by rw [← hz]; exact filled_any s (by have := HS.out; omega) w'
        have HZ := Lib.hid hz
        clear hR1 hK1 ht htf hz
        go_upto_region 9 with (fail)
        go_region_held3 (fun w' => w'.cell? ⟨b, 1, none⟩ = some (.slice (some ⟨gl, 0, none⟩) n c2)) (first | exact p1d | exact p13 | exact p14) (first
          | (go_at_call 22; refine (HFL.out _).mono ?_; rintro e w3 ⟨rfl, hb3⟩; have hb3' : Below w1.heap.size w1 w3 := below_of_drew hb3; have H3 := Lib.hid (HR1.out.below hb3'); have p13 := H3.out.cells.2.1; obtain ⟨q3, f3⟩ := H3.out.rl.at_ HT.out; have p14 : (w3.setCell ⟨gl, j, none⟩ (.string z)).cell? ⟨b, 1, none⟩ = some (.slice (some ⟨gl, 0, none⟩) n c2) := (only_set w3 gl j (.string z)).cell p13 (fun e => H3.out.ne.1.2.1 (Option.some.inj e))))
        have H4 := Lib.hid (And.intro ((only_set w3 gl j (.string z)).cell H3.out.cells.2.2.1 (fun e => H3.out.ne.1.2.1 (Option.some.inj e))) ((H3.out.rf.same (set_same w3 gl j (.string z) H3.out.ne.2.2.2.symm)).at_ HTF.out))
        obtain ⟨s2, x2, y2⟩ := H4.out
        have HB3 := Lib.hid hb3'
        clear q3 f3 p13 p14 hb3 hb3' p1 p1d
        go_wp2_with fail
        go_ret
        have hP := H3.out.put HJ.out z (by rw [← HZ.out]; exact fillS_size (by have := HS.out; omega))
        rw [HR.out, Int.toNat_natCast, HZ.out]
        exact ⟨rfl, hP, (HK1.out.trans (Keep4.of_below HB3.out)).trans ((Keep4.set_ _ _ _ _ _ gl j _ (by simp)).trans (Keep4.set_ _ _ _ _ _ gf j _ (by simp)))⟩
end Go.Proofs.YthjjdjhmaffoeaaGreatDoor
