/-
  The reference's disk: New.
-/
import Derived.Test.YthjjdjhmaffoeaaGreatDoorDkV
import Derived.Deep.RegionLaw
import Derived.RegionTactic
import Derived.Maps.AppendAt
namespace Go.Proofs.YthjjdjhmaffoeaaGreatDoor
open Go.RowKit

/-- 'append' of one new element as a step of a drawn region, and where the row then lies. -/
theorem step_append_at {P : Program} {ops : Array Oper} {o : Oper} {a : Act} {w : World} {K : Act → World → Prop} {Q : Exit → Act → World → Prop} {E : Prop} (hgd : o.guard = none) (s x : Operand) (t : TypeId)
    (ho : o.op = .call { callee := .builtin .append, args := #[s, x], argTypes := #[t, t] })
    (base : Nat) (e : TypeId) (size bytes : Nat) (hel : El P t e size bytes) (v : Value) (n : Nat) (xs : List Value) (hown : w.ownsRow base e size v n xs) (hs : a.eval s = v) (ad : Addr) (m c : Nat) (news : List Value)
    (hx : a.eval x = .slice (some ad) m c) (hcell : ∀ j u, news[j]? = some u → w.cell? (ad.add j) = some u) (hC : news.length = m * size) (h1 : ∀ u ∈ news, u.oneCell' = true)
    (h63 : n + m ≤ maxLen) (hbytes : (n + m) * bytes ≤ 140737488355328) (hbase : base ≤ w.heap.size)
    (hK : ∀ v' w', w'.ownsRow base e size v' (n + m) (xs ++ news) → w.grownBy w' v.ownBlock → (v'.ownBlock = v.ownBlock ∨ v'.ownBlock = some w.heap.size) → K (a.put o.dst v') w') :
    if Region.wanted o (yielded ops a.tmps) = true then Oper.wp P o a w K Q else E := by
  obtain ⟨ht, hsz, i, z, hi, hz, hsize, hby, hzs⟩ := hel
  have hw : Region.wanted o (yielded ops a.tmps) = true := by simp [Region.wanted, hgd]
  rw [if_pos hw]
  obtain ⟨v', w', hrun, r1, r2, _, r4⟩ := run_append_own_at (P := P) w base t o.type e i z size bytes ht hi hz hsize hby hzs hsz v n xs hown ad m c news hC hcell h1 h63 hbytes hbase
  unfold Oper.wp
  simp [execOp, ho, resolve, invoke, builtin, hs, hx, hrun, Result.andThen]
  exact hK v' w' r1 r2 r4

theorem bools_snoc (l : List Bool) (z : Bool) : bools l ++ [Value.bool z] = bools (l ++ [z]) := by simp [bools]
theorem el_boolK : El Tryz.prog 50 4 1 1 := El.mk_ (z := .bool false) Tryz.underlying50 (by kernel_rfl) (by decide) (by rfl)
/-- Three rows that grow, and the struct that they lie in. -/
structure Tri (w wr : World) (d k0 k1 k2 : Nat) (l0 l1 : List ByteArray) (l2 : List Bool) (F : Int) (G : Bool) (v0 v1 v2 : Value) : Prop where
  bk : Bk wr d 52 #[v0, v1, v2, .int .i64 F, .bool G]
  r0 : wr.ownsRow (d + 1) 9 1 v0 k0 (strs l0)
  r1 : wr.ownsRow (d + 1) 9 1 v1 k1 (strs l1)
  r2 : wr.ownsRow (d + 1) 4 1 v2 k2 (bools l2)
  s01 : ∀ q, v0.ownBlock = some q → v1.ownBlock = some q → False
  s02 : ∀ q, v0.ownBlock = some q → v2.ownBlock = some q → False
  s12 : ∀ q, v1.ownBlock = some q → v2.ownBlock = some q → False
  bl : Below w.heap.size w wr
  le : w.heap.size ≤ d
section
variable {w wr w' : World} {d k0 k1 k2 : Nat} {l0 l1 : List ByteArray} {l2 : List Bool} {F : Int} {G : Bool} {v0 v1 v2 v : Value}
theorem Tri.quiet (h : Tri w wr d k0 k1 k2 l0 l1 l2 F G v0 v1 v2) (hb : Below wr.heap.size wr w') : Tri w w' d k0 k1 k2 l0 l1 l2 F G v0 v1 v2 :=
  ⟨h.bk.below' hb, own_below h.r0 hb, own_below h.r1 hb, own_below h.r2 hb, h.s01, h.s02, h.s12, h.bl.trans (hb.mono h.bl.size), h.le⟩
theorem grown_alloc {o : Obj} {row : Option Nat} (hg : (wr.alloc o).grownBy w' row) : wr.grownBy w' row := by
  have h7 := World.grownBy_alloc wr o row
  exact ⟨hg.os.trans h7.os, hg.tape.trans h7.tape, hg.output.trans h7.output, Nat.le_trans h7.size hg.size, fun k hk hne => (hg.block k (Nat.lt_of_lt_of_le hk h7.size) hne).trans (h7.block k hk hne)⟩
theorem own_kept {base n : Nat} {e : TypeId} {v u : Value} {xs : List Value} (h : wr.ownsRow base e 1 v n xs) (hg : wr.grownBy w' u.ownBlock) (hs : ∀ q, u.ownBlock = some q → v.ownBlock = some q → False) : w'.ownsRow base e 1 v n xs := by
  refine h.kept hg ?_
  cases hv : v.ownBlock with
  | none => exact .inl rfl
  | some q => exact .inr fun e => hs q e.symm hv
theorem own_setD {base n d i : Nat} {e : TypeId} {v u : Value} {xs : List Value} (h : w'.ownsRow base e 1 v n xs) (hd : d < base) : (w'.setCell ⟨d, i, none⟩ u).ownsRow base e 1 v n xs := by
  refine h.kept (only_set w' d i u) ?_
  cases hv : v.ownBlock with
  | none => exact .inl rfl
  | some q => exact .inr fun e => by have := (h.lt q hv).1; cases e; omega
theorem sep_new {base n : Nat} {e : TypeId} {u u' v : Value} {xs : List Value} (h : wr.ownsRow base e 1 v n xs) (hs : ∀ q, u.ownBlock = some q → v.ownBlock = some q → False) (hl : u'.ownBlock = u.ownBlock ∨ ∃ p, u'.ownBlock = some p ∧ wr.heap.size ≤ p) : ∀ q, u'.ownBlock = some q → v.ownBlock = some q → False := fun q h1 h2 => by
  rcases hl with e | ⟨p, e, hp⟩
  · exact hs q (e.symm.trans h1) h2
  · have := (h.lt q h2).2
    rw [e] at h1
    cases h1
    omega
theorem bk_grown (h : Tri w wr d k0 k1 k2 l0 l1 l2 F G v0 v1 v2) {u : Value} {n : Nat} {e : TypeId} {xs : List Value} (hu : wr.ownsRow (d + 1) e 1 u n xs) (hg : wr.grownBy w' u.ownBlock) : Bk w' d 52 #[v0, v1, v2, .int .i64 F, .bool G] :=
  (hg.block d h.bk.lt (fun e => by have := (hu.lt d e.symm).1; omega)).trans h.bk
theorem bk_at0 (h : Bk wr d 52 #[v0, v1, v2, .int .i64 F, .bool G]) : wr.cell? ⟨d, 0, none⟩ = some v0 ∧ wr.frozen? ⟨d, 0, none⟩ = false := by
  have p := h.cell 0
  simp only [List.getElem?_toArray, List.getElem?_cons_zero] at p
  exact ⟨p, h.frozen 0⟩
theorem bk_at1 (h : Bk wr d 52 #[v0, v1, v2, .int .i64 F, .bool G]) : wr.cell? ⟨d, 1, none⟩ = some v1 ∧ wr.frozen? ⟨d, 1, none⟩ = false := by
  have p := h.cell 1
  simp only [List.getElem?_toArray, List.getElem?_cons_zero, List.getElem?_cons_succ] at p
  exact ⟨p, h.frozen 1⟩
theorem bk_at2 (h : Bk wr d 52 #[v0, v1, v2, .int .i64 F, .bool G]) : wr.cell? ⟨d, 2, none⟩ = some v2 ∧ wr.frozen? ⟨d, 2, none⟩ = false := by
  have p := h.cell 2
  simp only [List.getElem?_toArray, List.getElem?_cons_zero, List.getElem?_cons_succ] at p
  exact ⟨p, h.frozen 2⟩
theorem Tri.step0 (h : Tri w wr d k0 k1 k2 l0 l1 l2 F G v0 v1 v2) {m : Nat} {ls : List ByteArray} (ho : w'.ownsRow (d + 1) 9 1 v m (strs ls)) (hg : wr.grownBy w' v0.ownBlock) (hl : v.ownBlock = v0.ownBlock ∨ ∃ p, v.ownBlock = some p ∧ wr.heap.size ≤ p) :
    Tri w (w'.setCell ⟨d, 0, none⟩ v) d m k1 k2 ls l1 l2 F G v v1 v2 := by
  have hb := (bk_grown h h.r0 hg).set_ 0 v
  simp only [List.setIfInBounds_toArray, List.set_cons_zero] at hb
  refine ⟨hb, own_setD ho (by omega), own_setD (own_kept h.r1 hg h.s01) (by omega), own_setD (own_kept h.r2 hg h.s02) (by omega), sep_new h.r1 h.s01 hl, sep_new h.r2 h.s02 hl, h.s12, ?_, h.le⟩
  have h1 := h.bl.trans (grow_below hg h.bl.size fun q hq => by have := (h.r0.lt q hq).1; have := h.le; omega)
  exact h1.trans (below_only (only_set w' d 0 v) h.le h1.size)
theorem Tri.step1 (h : Tri w wr d k0 k1 k2 l0 l1 l2 F G v0 v1 v2) {m : Nat} {ls : List ByteArray} (ho : w'.ownsRow (d + 1) 9 1 v m (strs ls)) (hg : wr.grownBy w' v1.ownBlock) (hl : v.ownBlock = v1.ownBlock ∨ ∃ p, v.ownBlock = some p ∧ wr.heap.size ≤ p) :
    Tri w (w'.setCell ⟨d, 1, none⟩ v) d k0 m k2 l0 ls l2 F G v0 v v2 := by
  have hb := (bk_grown h h.r1 hg).set_ 1 v
  simp only [List.setIfInBounds_toArray, List.set_cons_zero, List.set_cons_succ] at hb
  refine ⟨hb, own_setD (own_kept h.r0 hg (fun q a b => h.s01 q b a)) (by omega), own_setD ho (by omega), own_setD (own_kept h.r2 hg h.s12) (by omega), fun q a b => sep_new h.r0 (fun q a b => h.s01 q b a) hl q b a, h.s02, sep_new h.r2 h.s12 hl, ?_, h.le⟩
  have h1 := h.bl.trans (grow_below hg h.bl.size fun q hq => by have := (h.r1.lt q hq).1; have := h.le; omega)
  exact h1.trans (below_only (only_set w' d 1 v) h.le h1.size)
theorem Tri.step2 (h : Tri w wr d k0 k1 k2 l0 l1 l2 F G v0 v1 v2) {m : Nat} {ls : List Bool} (ho : w'.ownsRow (d + 1) 4 1 v m (bools ls)) (hg : wr.grownBy w' v2.ownBlock) (hl : v.ownBlock = v2.ownBlock ∨ ∃ p, v.ownBlock = some p ∧ wr.heap.size ≤ p) :
    Tri w (w'.setCell ⟨d, 2, none⟩ v) d k0 k1 m l0 l1 ls F G v0 v1 v := by
  have hb := (bk_grown h h.r2 hg).set_ 2 v
  simp only [List.setIfInBounds_toArray, List.set_cons_zero, List.set_cons_succ] at hb
  refine ⟨hb, own_setD (own_kept h.r0 hg (fun q a b => h.s02 q b a)) (by omega), own_setD (own_kept h.r1 hg (fun q a b => h.s12 q b a)) (by omega), own_setD ho (by omega), h.s01, fun q a b => sep_new h.r0 (fun q a b => h.s02 q b a) hl q b a, fun q a b => sep_new h.r1 (fun q a b => h.s12 q b a) hl q b a, ?_, h.le⟩
  have h1 := h.bl.trans (grow_below hg h.bl.size fun q hq => by have := (h.r2.lt q hq).1; have := h.le; omega)
  exact h1.trans (below_only (only_set w' d 2 v) h.le h1.size)
/-- The rows are full: it is a disk. -/
theorem Tri.ref {n : Nat} {S : St} (h : Tri w wr d n n n S.old S.lst S.fresh S.fuse S.dead v0 v1 v2) (hok : S.Ok n) (h1 : 1 ≤ n) (h2 : n ≤ 1024) (hf : S.fuse ≤ 9223372036854775807) :
    ∃ go gl gf c1 c2 c3, RefAt wr d go gl gf c1 c2 c3 S n ∧ w.heap.size ≤ go ∧ w.heap.size ≤ gl ∧ w.heap.size ≤ gf := by
  obtain ⟨hbk, r0, r1, r2, s01, s02, s12, hbl, hle⟩ := h
  obtain ⟨go, c1, u0, rfl, g0, b0, _, _, t0⟩ := own_block r0 (by omega)
  obtain ⟨gl, c2, u1, rfl, g1, b1, _, _, t1⟩ := own_block r1 (by omega)
  obtain ⟨gf, c3, u2, rfl, g2, b2, _, _, t2⟩ := own_block r2 (by omega)
  have n01 : go ≠ gl := fun e => s01 go rfl (by rw [e]; rfl)
  have n02 : go ≠ gf := fun e => s02 go rfl (by rw [e]; rfl)
  have n12 : gl ≠ gf := fun e => s12 gl rfl (by rw [e]; rfl)
  exact ⟨go, gl, gf, c1, c2, c3, ⟨hbk, ⟨u0, b0, by rw [hok.lo]; exact t0⟩, ⟨u1, b1, by rw [hok.ll]; exact t1⟩, ⟨u2, b2, by rw [hok.lf]; exact t2⟩, ⟨by omega, n01, n02, n12⟩, hok, h1, h2, hf⟩, by omega, by omega, by omega⟩
end

set_option maxRecDepth 100000 in
set_option maxHeartbeats 4000000 in
theorem rnew_bad (w : World) (k : Int) (h : k < 1 ∨ 1024 < k) :
    Calls Tryz.prog 5 #[.int .i64 k] w fun e w' => e = .returned (.tuple #[.pointer none, .int .i64 1]) ∧ Below w.heap.size w w' := by
  rcases h with h | h
  · go_enter Tryz.func5, Tryz.ntmps5
    go_wp2_with fail
    all_goals go_ret2
    all_goals exact ⟨rfl, Below.refl _ _⟩
  · have h1 : ¬ k < 1 := by omega
    go_enter Tryz.func5, Tryz.ntmps5
    go_wp2_with fail
    all_goals go_ret2
    all_goals exact ⟨rfl, Below.refl _ _⟩
/-- What New and Clone of the reference end in. -/
def RNew (w : World) (S : St) (n : Nat) (mk : Nat → Value) (e : Ending) (w' : World) : Prop := ∃ b go gl gf c1 c2 c3, e = .returned (mk b) ∧ RefAt w' b go gl gf c1 c2 c3 S n ∧ w.heap.size ≤ b ∧ w.heap.size ≤ go ∧ w.heap.size ≤ gl ∧ w.heap.size ≤ gf ∧ Below w.heap.size w w'
set_option maxRecDepth 100000 in
set_option maxHeartbeats 8000000 in
theorem rnew_ok (w : World) (x : Int) (n : Nat) (hx : x = n) (h1 : 1 ≤ n) (h2 : n ≤ 1024) :
    Calls Tryz.prog 5 #[.int .i64 x] w (RNew w (St.new n) n fun b => .tuple #[.pointer (some ⟨b, 0, none⟩), .int .i64 0]) := by
  subst hx
  have hk1 : ¬ (n : Int) < 1 := by omega
  have hk2 : ¬ (1024 : Int) < (n : Int) := by omega
  obtain ⟨z, hz⟩ : ∃ z, fillS ⟨#[]⟩ = z := ⟨_, rfl⟩
  have HFL : Hid (∀ w', Calls Tryz.prog 22 #[.string ⟨#[]⟩] w' fun e w'' => e = .returned (.string z) ∧ Below w'.heap.size w' w'') := Lib.hid fun w' => by rw [← hz]; exact filled_any ⟨#[]⟩ (by decide) w'
  have HZ := Lib.hid hz
  clear hz
  go_enter Tryz.func5, Tryz.ntmps5
  go_wp2_with fail
  go_loopw [5] (fun vi wr => ∃ (k : Nat) (v0 v1 v2 : Value), vi = .int .i64 k ∧ k ≤ n ∧ Hid (Tri w wr w.heap.size k k k (List.replicate k z) (List.replicate k z) (List.replicate k false) (-1) false v0 v1 v2)) (fun vi _ => n - (intOf vi).toNat)
  case atStart =>
    refine ⟨0, .slice none 0 0, .slice none 0 0, .slice none 0 0, rfl, by omega, Lib.hid ⟨Bk.new w _ _, World.ownsRow_nil _ _ _ _, World.ownsRow_nil _ _ _ _, World.ownsRow_nil _ _ _ _, fun q h => by simp [Value.ownBlock] at h, fun q h => by simp [Value.ownBlock] at h, fun q h => by simp [Value.ownBlock] at h, (Below.refl _ w).alloc (Nat.le_refl _) _, Nat.le_refl _⟩⟩
  case round =>
    obtain ⟨k, v0, v1, v2, rfl, hk, HT⟩ := hrel
    by_cases hlt : k < n
    · have h5 : (k : Int) < (n : Int) := by omega
      have p0 := HT.out.bk.cell 0
      simp only [List.getElem?_toArray, List.getElem?_cons_zero] at p0
      have p0d : wr.drew.cell? ⟨w.heap.size, 0, none⟩ = some v0 := p0
      clear p0
      go_wp2_with fail
      go_region_law (first
        | (refine step_append_at rfl (.tmp 23) (.tmp 25) 45 rfl (w.heap.size + 1) 9 1 16 el_strK v0 k _ (T3.out.r0.alloc _) (by simp [Act.eval, Act.put]) ⟨w3.heap.size, 0, none⟩ 1 1 [.string z] (by simp [Act.eval, Act.put]) (fun j u hj => by rw [add_mk, World.cell?_alloc_mark]; simpa using hj) rfl (by intro u hu; simp at hu; subst hu; rfl) (by unfold maxLen; omega) (by omega) (by have := T3.out.bk.lt; simp; omega) ?_; intro u4 w4 ho4 hg4 hl4; obtain ⟨g4, cap4, cur4, rfl, _⟩ := own_block ho4 (by omega); obtain ⟨x0, y0⟩ := bk_at0 (bk_grown T3.out T3.out.r0 (grown_alloc hg4)); have T4 := Lib.hid (T3.out.step0 (v := .slice (some ⟨g4, 0, none⟩) (k + 1) cap4) (w' := w4) (m := k + 1) (ls := List.replicate k z ++ [z]) (by rw [← strs_snoc]; exact ho4) (grown_alloc hg4) (hl4.imp id fun h => ⟨_, h, by simp⟩)))
        | (go_simp; go_at_call 22; refine (HFL.out _).mono ?_; rintro e w3 ⟨rfl, hb3⟩; have T3 := Lib.hid (HT.out.quiet (below_of_drew hb3)); have p03 := (hb3.cell (World.block_lt_of_cell? _ _ p0d)).trans p0d; have p04 : (w3.alloc (.cells #[.string z] 9)).cell? ⟨w.heap.size, 0, none⟩ = some v0 := (((Below.refl _ w3).alloc (Nat.le_refl _) (.cells #[.string z] 9)).cell (World.block_lt_of_cell? _ _ p03)).trans p03))
      all_goals
        clear p0d p03 p04 x0 y0 ho4 hg4 hl4 hb3 T3
        generalize hw5 : w4.setCell ⟨w.heap.size, 0, none⟩ (.slice (some ⟨g4, 0, none⟩) (k + 1) cap4) = w5 at *
        clear hw5
        have p1d : w5.drew.cell? ⟨w.heap.size, 1, none⟩ = some v1 := (bk_at1 T4.out.bk).1
        go_wp2_with fail
        go_region_law (first
          | (refine step_append_at rfl (.tmp 33) (.tmp 35) 45 rfl (w.heap.size + 1) 9 1 16 el_strK v1 k _ (T6.out.r1.alloc _) (by simp [Act.eval, Act.put]) ⟨w6.heap.size, 0, none⟩ 1 1 [.string z] (by simp [Act.eval, Act.put]) (fun j u hj => by rw [add_mk, World.cell?_alloc_mark]; simpa using hj) rfl (by intro u hu; simp at hu; subst hu; rfl) (by unfold maxLen; omega) (by omega) (by have := T6.out.bk.lt; simp; omega) ?_; intro u7 w7 ho7 hg7 hl7; obtain ⟨g7, cap7, cur7, rfl, _⟩ := own_block ho7 (by omega); obtain ⟨x1, y1⟩ := bk_at1 (bk_grown T6.out T6.out.r1 (grown_alloc hg7)); have T7 := Lib.hid (T6.out.step1 (v := .slice (some ⟨g7, 0, none⟩) (k + 1) cap7) (w' := w7) (m := k + 1) (ls := List.replicate k z ++ [z]) (by rw [← strs_snoc]; exact ho7) (grown_alloc hg7) (hl7.imp id fun h => ⟨_, h, by simp⟩)))
          | (go_simp; go_at_call 22; refine (HFL.out _).mono ?_; rintro e w6 ⟨rfl, hb6⟩; have T6 := Lib.hid (T4.out.quiet (below_of_drew hb6)); have p13 := (hb6.cell (World.block_lt_of_cell? _ _ p1d)).trans p1d; have p14 : (w6.alloc (.cells #[.string z] 9)).cell? ⟨w.heap.size, 1, none⟩ = some v1 := (((Below.refl _ w6).alloc (Nat.le_refl _) (.cells #[.string z] 9)).cell (World.block_lt_of_cell? _ _ p13)).trans p13))
      all_goals
        clear p1d p13 p14 x1 y1 ho7 hg7 hl7 hb6 T6 T4
        generalize hw8 : w7.setCell ⟨w.heap.size, 1, none⟩ (.slice (some ⟨g7, 0, none⟩) (k + 1) cap7) = w8 at *
        clear hw8
        have p2 := (bk_at2 T7.out.bk).1
        have HSZ := Lib.hid (show w.heap.size + 1 ≤ w8.heap.size from T7.out.bk.lt)
        have HK := Lib.hid hk
        go_wp2_with (first | (at_builtin; refine wpList_append_new_at w8 rfl (.tmp 43) (.tmp 44) 50 rfl (w.heap.size + 1) 4 1 1 el_boolK v2 k _ T7.out.r2 rfl #[.bool false] rfl rfl (by intro u hu; simp at hu; subst hu; rfl) (by unfold maxLen; omega) (by omega) HSZ.out ?_; intro u9 w9 ho9 hg9 hl9; obtain ⟨g9, cap9, cur9, rfl, _⟩ := own_block ho9 (by omega); obtain ⟨x2, y2⟩ := bk_at2 (bk_grown T7.out T7.out.r2 hg9); have T9 := Lib.hid (T7.out.step2 (v := .slice (some ⟨g9, 0, none⟩) (k + 1) cap9) (w' := w9) (m := k + 1) (ls := List.replicate k false ++ [false]) (by rw [← bools_snoc]; exact ho9) hg9 hl9)) | fail)
        go_roundw
        case rel =>
          have := T9.out
          rw [show List.replicate k z ++ [z] = List.replicate (k + 1) z from (List.replicate_succ' ..).symm, show List.replicate k false ++ [false] = List.replicate (k + 1) false from (List.replicate_succ' ..).symm] at this
          exact ⟨k + 1, _, _, _, congrArg _ (by omega), by omega, Lib.hid this⟩
        case measure => simp [intOf]; omega
    · have h5 : ¬ (k : Int) < (n : Int) := by omega
      obtain rfl : k = n := by omega
      go_wp2_with fail
      go_ret2
      obtain ⟨go, gl, gf, c1, c2, c3, hR, l1, l2, l3⟩ := (show Tri w wr w.heap.size k k k (St.new k).old (St.new k).lst (St.new k).fresh (St.new k).fuse (St.new k).dead v0 v1 v2 from by
        have := HT.out
        rw [← HZ.out] at this
        exact this).ref (St.Ok.new k) h1 h2 (by show (-1 : Int) ≤ _; omega)
      exact ⟨_, go, gl, gf, c1, c2, c3, rfl, hR, Nat.le_refl _, l1, l2, l3, HT.out.bl⟩
end Go.Proofs.YthjjdjhmaffoeaaGreatDoor
