/-
  The walk of the reference's Take of a header. Is a text a header's? As one contract for header.Take and for the reference's.
-/
import Derived.Test.YtaagdoaeefhleaaDoorP4
import Derived.BigRegion
import Derived.ChangeAlike
import Derived.Outline
namespace Go.Proofs.YtaagdoaeefhleaaDoor
open Go.RowKit

theorem hmay_b (id : Int) (sa : ByteArray) (n bs raw : Int) (ro ta : ByteArray) (k : Bool) (h : hdrOk id sa n bs raw ro ta = k) (w : World) :
    Calls Tryd.prog 42 #[.agg #[.int .i64 id, .string sa, .int .i64 n, .int .i64 bs, .int .i64 raw, .string ro, .string ta]] w fun e w' => e = .returned (.bool k) ∧ Below w.heap.size w w' := by subst h; exact hmay_any id sa n bs raw ro ta w

set_option maxRecDepth 20000 in
set_option maxHeartbeats 2000000 in
theorem htakeR_bad (s : ByteArray) (w : World) (hb : ¬ s.size = 98 ∨ (s.size = 98 ∧ ((s.extract 0 4).toList == [83, 76, 71, 49]) = false)) :
    Calls Tryd.prog 30 #[.string s] w fun e w' => e = .returned (.tuple #[.agg #[.int .i64 0, .string ⟨#[]⟩, .int .i64 0, .int .i64 0, .int .i64 0, .string ⟨#[]⟩, .string ⟨#[]⟩], .int .i64 2]) ∧ Below w.heap.size w w' := by
  have hB := (Below.refl w.heap.size w).alloc (Nat.le_refl _) (.cells #[.int .i64 0, .string ⟨#[]⟩, .int .i64 0, .int .i64 0, .int .i64 0, .string ⟨#[]⟩, .string ⟨#[]⟩] 23)
  rcases hb with h | ⟨h, hq⟩
  · have h' : (((s.size : Nat) : Int) != 98) = true := by simp; omega
    clear h
    go_enter Tryd.func30, Tryd.ntmps30
    go_wp2
    exact bodyPost_ret (v := .tuple #[.agg #[.int .i64 0, .string ⟨#[]⟩, .int .i64 0, .int .i64 0, .int .i64 0, .string ⟨#[]⟩, .string ⟨#[]⟩], .int .i64 2]) (by simp [results, Tryd.results30, go_sem]) rfl ⟨rfl, hB⟩
  · have h' : ((s.size : Nat) : Int) = 98 := by omega
    clear h
    go_enter Tryd.func30, Tryd.ntmps30
    go_wp2
    exact bodyPost_ret (v := .tuple #[.agg #[.int .i64 0, .string ⟨#[]⟩, .int .i64 0, .int .i64 0, .int .i64 0, .string ⟨#[]⟩, .string ⟨#[]⟩], .int .i64 2]) (by simp [results, Tryd.results30, go_sem]) rfl ⟨rfl, hB⟩

set_option maxRecDepth 20000 in
set_option maxHeartbeats 4000000 in
theorem htakeR_parts (s : ByteArray) (w : World) (hs : s.size = 98) (hq : ((s.extract 0 4).toList == [83, 76, 71, 49]) = true) (id : Int) (sa : ByteArray) (n bs raw : Int) (ro ta : ByteArray) (c1 c2 c3 c4 c5 c6 c7 c8 : ByteArray) (hp : Parts s id sa n bs raw ro ta c1 c2 c3 c4 c5 c6 c7 c8) :
    Calls Tryd.prog 30 #[.string s] w (HTEnd w (hdrOk id sa n bs raw ro ta) #[.int .i64 id, .string sa, .int .i64 n, .int .i64 bs, .int .i64 raw, .string ro, .string ta]) := by
  obtain ⟨p1, z1, p2, z2, p3, p4, z3, p5, z4, p6, z5, p7, z6, p8, p9, z7, p10, p11, z8⟩ := hp
  have hs' : ((s.size : Nat) : Int) = 98 := by omega
  have Hp2 := Lib.hid p2
  have Hp5 := Lib.hid p5
  have Hp6 := Lib.hid p6
  have Hp7 := Lib.hid p7
  have hta : c6.extract 32 64 = ta := by
    have e : c7 = ta := by rw [← p10]; exact str_eq (by rw [toList_pre, List.take_of_length_le (by rw [size_toList]; omega)])
    rw [← e, ← p9, z6]
  have Hz := Lib.hid (And.intro z1 (And.intro z2 (And.intro z3 (And.intro z4 (And.intro z5 (And.intro z6 z7))))))
  have p1' : s.extract 4 98 = c1 := by rw [← p1, hs]
  have p4' := p4
  have hta2 : c6.extract 32 c6.size = ta := by rw [z6]; exact hta
  have p8' := p8
  have p3' := p3
  have Hro := Lib.hid p8
  have Hta := Lib.hid hta
  have Hsa := Lib.hid p3
  have z2' : ((c2.size : Nat) : Int) = 90 := by omega
  have z6' : ((c6.size : Nat) : Int) = 64 := by omega
  clear p2 p3 p4 p5 p6 p7 p8 p9 p10 p11 z1 z2 z3 z4 z5 z6 z7 z8 hs hta
  have hB := (Below.refl w.heap.size w).alloc (Nat.le_refl _) (.cells #[.int .i64 0, .string ⟨#[]⟩, .int .i64 0, .int .i64 0, .int .i64 0, .string ⟨#[]⟩, .string ⟨#[]⟩] 23)
  have hR : Bk (w.alloc (.cells #[.int .i64 0, .string ⟨#[]⟩, .int .i64 0, .int .i64 0, .int .i64 0, .string ⟨#[]⟩, .string ⟨#[]⟩] 23)) w.heap.size 23 #[.int .i64 0, .string ⟨#[]⟩, .int .i64 0, .int .i64 0, .int .i64 0, .string ⟨#[]⟩, .string ⟨#[]⟩] := Bk.new _ _ _
  go_enter Tryd.func30, Tryd.ntmps30
  go_wp2_with fail
  (with_reducible refine (takeFR_is c1 c2 4 id 0 _ (by have := Hz.out; omega) Hp2.out).mono ?_)
  rintro e w1 ⟨rfl, hb1⟩
  have hR1 := hR.below' hb1
  have hB1 := bl hB hb1
  clear hR hB hb1
  go_wp2_with fail
  (with_reducible refine (takeFR_is c3 c4 2 n 0 _ (by have := Hz.out; omega) Hp5.out).mono ?_)
  rintro e w2 ⟨rfl, hb2⟩
  have hR2 := hR1.below' hb2
  have hB2 := bl hB1 hb2
  clear hR1 hB1 hb2
  go_wp2_with fail
  (with_reducible refine (takeFR_is c4 c5 4 bs 0 _ (by have := Hz.out; omega) Hp6.out).mono ?_)
  rintro e w3 ⟨rfl, hb3⟩
  have hR3 := hR2.below' hb3
  have hB3 := bl hB2 hb3
  clear hR2 hB2 hb3
  go_wp2_with fail
  (with_reducible refine (takeFR_is c5 c6 4 raw 0 _ (by have := Hz.out; omega) Hp7.out).mono ?_)
  rintro e w4 ⟨rfl, hb4⟩
  have hR4 := hR3.below' hb4
  have hB4 := bl hB3 hb4
  clear hR3 hB3 hb4
  go_upto_region 8 with (fail)
  clear p4' z2' p3'
  go_region
  have hB5 := hB4.alloc hB4.size (.cells #[.int .i64 id, .string sa, .int .i64 n, .int .i64 bs, .int .i64 raw, .string ro, .string ta] 23)
  have hB6 : Below w.heap.size w (w4.alloc (.cells #[.int .i64 id, .string sa, .int .i64 n, .int .i64 bs, .int .i64 raw, .string ro, .string ta] 23)).drew := below_drewN hB5 1
  have hR6 : Bk (w4.alloc (.cells #[.int .i64 id, .string sa, .int .i64 n, .int .i64 bs, .int .i64 raw, .string ro, .string ta] 23)).drew w.heap.size 23 #[.int .i64 0, .string ⟨#[]⟩, .int .i64 0, .int .i64 0, .int .i64 0, .string ⟨#[]⟩, .string ⟨#[]⟩] := (hR4.alloc _).drew
  have hH6 : Bk (w4.alloc (.cells #[.int .i64 id, .string sa, .int .i64 n, .int .i64 bs, .int .i64 raw, .string ro, .string ta] 23)).drew w4.heap.size 23 #[.int .i64 id, .string sa, .int .i64 n, .int .i64 bs, .int .i64 raw, .string ro, .string ta] := (Bk.new _ _ _).drew
  clear hB5 hR4 hB4
  generalize (w4.alloc (.cells #[.int .i64 id, .string sa, .int .i64 n, .int .i64 bs, .int .i64 raw, .string ro, .string ta] 23)).drew = w6 at *
  have g0 := hH6.cell 0
  have g1 := hH6.cell 1
  have g2 := hH6.cell 2
  have g3 := hH6.cell 3
  have g4 := hH6.cell 4
  have g5 := hH6.cell 5
  have g6 := hH6.cell 6
  simp only [List.getElem?_toArray, List.getElem?_cons_succ, List.getElem?_cons_zero] at g0 g1 g2 g3 g4 g5 g6
  have hbF : ∀ (w5 : World), Below w.heap.size w w5 → ∀ v0 v1 v2 v3 v4 v5 v6 : Value, Below w.heap.size w (((((((w5.setCell ⟨w.heap.size, 0, none⟩ v0).setCell ⟨w.heap.size, 1, none⟩ v1).setCell ⟨w.heap.size, 2, none⟩ v2).setCell ⟨w.heap.size, 3, none⟩ v3).setCell ⟨w.heap.size, 4, none⟩ v4).setCell ⟨w.heap.size, 5, none⟩ v5).setCell ⟨w.heap.size, 6, none⟩ v6) := fun w5 hb v0 v1 v2 v3 v4 v5 v6 =>
    ((((((hb.setCell (Nat.le_refl _) _).setCell (Nat.le_refl _) _).setCell (Nat.le_refl _) _).setCell (Nat.le_refl _) _).setCell (Nat.le_refl _) _).setCell (Nat.le_refl _) _).setCell (Nat.le_refl _) _
  have Hbf := Lib.hid hbF
  clear hbF
  cases hd : hdrOk id sa n bs raw ro ta with
  | true =>
    have Hd := Lib.hid hd
    clear hd
    go_wp2_with fail
    (with_reducible refine (hmay_b id sa n bs raw ro ta true Hd.out _).mono ?_)
    rintro e w5 ⟨rfl, hb5⟩
    have hR5 := hR6.below' hb5
    have hG5 := hH6.below' hb5
    have hb6 := bl hB6 hb5
    clear g0 g1 g2 g3 g4 g5 g6 hR6 hH6 hB6 hb5
    have r0 := hR5.cell 0
    have r1 := hR5.cell 1
    have r2 := hR5.cell 2
    have r3 := hR5.cell 3
    have r4 := hR5.cell 4
    have r5 := hR5.cell 5
    have r6 := hR5.cell 6
    have g0 := hG5.cell 0
    have g1 := hG5.cell 1
    have g2 := hG5.cell 2
    have g3 := hG5.cell 3
    have g4 := hG5.cell 4
    have g5 := hG5.cell 5
    have g6 := hG5.cell 6
    simp only [List.getElem?_toArray, List.getElem?_cons_succ, List.getElem?_cons_zero] at g0 g1 g2 g3 g4 g5 g6 r0 r1 r2 r3 r4 r5 r6
    have f0 := hR5.frozen 0
    have f1 := hR5.frozen 1
    have f2 := hR5.frozen 2
    have f3 := hR5.frozen 3
    have f4 := hR5.frozen 4
    have f5 := hR5.frozen 5
    have f6 := hR5.frozen 6
    go_wp2_with fail
    exact bodyPost_ret (v := .tuple #[.agg #[.int .i64 id, .string sa, .int .i64 n, .int .i64 bs, .int .i64 raw, .string ro, .string ta], .int .i64 0]) (by simp [results, Tryd.results30, go_sem, r0, r1, r2, r3, r4, r5, r6]) rfl ⟨by rw [Hd.out]; rfl, Hbf.out _ hb6 _ _ _ _ _ _ _⟩
  | false =>
    have Hd := Lib.hid hd
    clear hd
    go_wp2_with fail
    (with_reducible refine (hmay_b id sa n bs raw ro ta false Hd.out _).mono ?_)
    rintro e w5 ⟨rfl, hb5⟩
    have hR5 := hR6.below' hb5
    have hb6 := bl hB6 hb5
    clear g0 g1 g2 g3 g4 g5 g6 hR6 hH6 hB6 hb5
    have r0 := hR5.cell 0
    have r1 := hR5.cell 1
    have r2 := hR5.cell 2
    have r3 := hR5.cell 3
    have r4 := hR5.cell 4
    have r5 := hR5.cell 5
    have r6 := hR5.cell 6
    simp only [List.getElem?_toArray, List.getElem?_cons_succ, List.getElem?_cons_zero] at r0 r1 r2 r3 r4 r5 r6
    have f0 := hR5.frozen 0
    have f1 := hR5.frozen 1
    have f2 := hR5.frozen 2
    have f3 := hR5.frozen 3
    have f4 := hR5.frozen 4
    have f5 := hR5.frozen 5
    have f6 := hR5.frozen 6
    go_wp2_with fail
    exact bodyPost_ret (v := .tuple #[.agg #[.int .i64 0, .string ⟨#[]⟩, .int .i64 0, .int .i64 0, .int .i64 0, .string ⟨#[]⟩, .string ⟨#[]⟩], .int .i64 2]) (by simp [results, Tryd.results30, go_sem, r0, r1, r2, r3, r4, r5, r6]) rfl ⟨by rw [Hd.out]; rfl, Hbf.out _ hb6 _ _ _ _ _ _ _⟩
end Go.Proofs.YtaagdoaeefhleaaDoor
namespace Go.Proofs.YtaagdoaeefhleaaDoor
open Go.RowKit

def hc1 (s : ByteArray) : ByteArray := s.extract 4 s.size
def hc2 (s : ByteArray) : ByteArray := (hc1 s).extract 4 (hc1 s).size
def hc3 (s : ByteArray) : ByteArray := (hc2 s).extract 16 (hc2 s).size
def hc4 (s : ByteArray) : ByteArray := (hc3 s).extract 2 (hc3 s).size
def hc5 (s : ByteArray) : ByteArray := (hc4 s).extract 4 (hc4 s).size
def hc6 (s : ByteArray) : ByteArray := (hc5 s).extract 4 (hc5 s).size
def hc7 (s : ByteArray) : ByteArray := (hc6 s).extract 32 (hc6 s).size
def hc8 (s : ByteArray) : ByteArray := (hc7 s).extract 32 (hc7 s).size
/-- Are a text's parts those of a header? -/
def hdrP (s : ByteArray) : Bool := hdrOk (nmH (hc1 s) 4) ((hc2 s).extract 0 16) (nmH (hc3 s) 2) (nmH (hc4 s) 4) (nmH (hc5 s) 4) ((hc6 s).extract 0 32) ((hc7 s).extract 0 32)
/-- Is a text a header's? -/
def hdrB (s : ByteArray) : Bool := decide (s.size = 98) && ((s.extract 0 4).toList == [83, 76, 71, 49]) && hdrP s
def hdrE (s : ByteArray) : Int := if hdrB s then 0 else 2
theorem parts_fn (s : ByteArray) (hs : s.size = 98) : Parts s (nmH (hc1 s) 4) ((hc2 s).extract 0 16) (nmH (hc3 s) 2) (nmH (hc4 s) 4) (nmH (hc5 s) 4) ((hc6 s).extract 0 32) ((hc7 s).extract 0 32) (hc1 s) (hc2 s) (hc3 s) (hc4 s) (hc5 s) (hc6 s) (hc7 s) (hc8 s) := by
  have z1 : (hc1 s).size = 94 := by unfold hc1; rw [suf_size _ _ (by omega)]; omega
  have z2 : (hc2 s).size = 90 := by unfold hc2; rw [suf_size _ _ (by omega)]; omega
  have z3 : (hc3 s).size = 74 := by unfold hc3; rw [suf_size _ _ (by omega)]; omega
  have z4 : (hc4 s).size = 72 := by unfold hc4; rw [suf_size _ _ (by omega)]; omega
  have z5 : (hc5 s).size = 68 := by unfold hc5; rw [suf_size _ _ (by omega)]; omega
  have z6 : (hc6 s).size = 64 := by unfold hc6; rw [suf_size _ _ (by omega)]; omega
  have z7 : (hc7 s).size = 32 := by unfold hc7; rw [suf_size _ _ (by omega)]; omega
  have z8 : (hc8 s).size = 0 := by unfold hc8; rw [suf_size _ _ (by omega)]; omega
  exact ⟨rfl, z1, takeF_k (hc1 s) 4 (by omega) (by omega) (by omega), z2, rfl, rfl, z3, takeF_k (hc3 s) 2 (by omega) (by omega) (by omega), z4, takeF_k (hc4 s) 4 (by omega) (by omega) (by omega), z5,
    takeF_k (hc5 s) 4 (by omega) (by omega) (by omega), z6, rfl, rfl, z7, rfl, rfl, z8⟩

/-- What of a text's reading as a header is told: the error. -/
def HErr (w : World) (k : Int) (e : Ending) (w' : World) : Prop :=
  ∃ (id : Int) (sa : ByteArray) (n bs raw : Int) (ro ta : ByteArray), e = .returned (.tuple #[.agg #[.int .i64 id, .string sa, .int .i64 n, .int .i64 bs, .int .i64 raw, .string ro, .string ta], .int .i64 k]) ∧ Below w.heap.size w w'
theorem herr_of (s : ByteArray) (w : World) (hs : s.size = 98) (hq : ((s.extract 0 4).toList == [83, 76, 71, 49]) = true) (e : Ending) (w' : World)
    (h : HTEnd w (hdrP s) #[.int .i64 (nmH (hc1 s) 4), .string ((hc2 s).extract 0 16), .int .i64 (nmH (hc3 s) 2), .int .i64 (nmH (hc4 s) 4), .int .i64 (nmH (hc5 s) 4), .string ((hc6 s).extract 0 32), .string ((hc7 s).extract 0 32)] e w') : HErr w (hdrE s) e w' := by
  obtain ⟨rfl, hb⟩ := h
  unfold hdrE hdrB
  rw [decide_eq_true hs, hq]
  cases hp : hdrP s with
  | true => exact ⟨_, _, _, _, _, _, _, rfl, hb⟩
  | false => exact ⟨0, ⟨#[]⟩, 0, 0, 0, ⟨#[]⟩, ⟨#[]⟩, rfl, hb⟩
theorem hbad_of (s : ByteArray) (h : ¬ (s.size = 98 ∧ ((s.extract 0 4).toList == [83, 76, 71, 49]) = true)) : (¬ s.size = 98 ∨ (s.size = 98 ∧ ((s.extract 0 4).toList == [83, 76, 71, 49]) = false)) ∧ hdrE s = 2 := by
  constructor
  · by_cases h1 : s.size = 98
    · exact .inr ⟨h1, by simpa using fun e => h ⟨h1, e⟩⟩
    · exact .inl h1
  · unfold hdrE hdrB
    by_cases h1 : s.size = 98
    · have : ((s.extract 0 4).toList == [83, 76, 71, 49]) = false := by simpa using fun e => h ⟨h1, e⟩
      rw [this, Bool.and_false, Bool.false_and]; rfl
    · rw [decide_eq_false h1, Bool.false_and, Bool.false_and]; rfl
theorem htake_e (s : ByteArray) (k : Int) (hk : hdrE s = k) (w : World) : Calls Tryd.prog 26 #[.string s] w (HErr w k) := by
  subst hk
  by_cases h : s.size = 98 ∧ ((s.extract 0 4).toList == [83, 76, 71, 49]) = true
  · exact (htake_parts s w h.1 h.2 _ _ _ _ _ _ _ _ _ _ _ _ _ _ _ (parts_fn s h.1)).mono fun e w' he => herr_of s w h.1 h.2 e w' he
  · obtain ⟨h1, h2⟩ := hbad_of s h
    rw [h2]
    exact (htake_bad s w h1).mono fun e w' ⟨he, hb⟩ => ⟨0, ⟨#[]⟩, 0, 0, 0, ⟨#[]⟩, ⟨#[]⟩, he, hb⟩
theorem htakeR_e (s : ByteArray) (k : Int) (hk : hdrE s = k) (w : World) : Calls Tryd.prog 30 #[.string s] w (HErr w k) := by
  subst hk
  by_cases h : s.size = 98 ∧ ((s.extract 0 4).toList == [83, 76, 71, 49]) = true
  · exact (htakeR_parts s w h.1 h.2 _ _ _ _ _ _ _ _ _ _ _ _ _ _ _ (parts_fn s h.1)).mono fun e w' he => herr_of s w h.1 h.2 e w' he
  · obtain ⟨h1, h2⟩ := hbad_of s h
    rw [h2]
    exact (htakeR_bad s w h1).mono fun e w' ⟨he, hb⟩ => ⟨0, ⟨#[]⟩, 0, 0, 0, ⟨#[]⟩, ⟨#[]⟩, he, hb⟩
end Go.Proofs.YtaagdoaeefhleaaDoor
