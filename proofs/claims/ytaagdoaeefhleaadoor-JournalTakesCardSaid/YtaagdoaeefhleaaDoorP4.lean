/-
  The walk of header.Take. The walk of header.Take: the whole.
-/
import Derived.Test.YtaagdoaeefhleaaDoorP3
import Derived.Test.YtaagdoaeefhleaaDoorFixRT
import Derived.Deep.Cut
namespace Go.Proofs.YtaagdoaeefhleaaDoor
open Go.RowKit

theorem suf_size (s : ByteArray) (k : Nat) (h : k ≤ s.size) : (s.extract k s.size).size = s.size - k := by rw [← size_toList, toList_suf, List.length_drop, size_toList]
theorem pre_size (s : ByteArray) (k : Nat) (h : k ≤ s.size) : (s.extract 0 k).size = k := by rw [← size_toList, toList_pre, List.length_take, size_toList]; omega
/-- A number of k bytes ahead of a text. -/
def nmH (s : ByteArray) (k : Nat) : Int := (num (s.toList.take k) : Int)
theorem takeF_k (s : ByteArray) (k : Nat) (h1 : 1 ≤ k) (h4 : k ≤ 4) (hs : k ≤ s.size) : takeF s.toList (k : Int) = (nmH s k, (s.extract k s.size).toList, 0) := by
  have hn := num_lt (s.toList.take k)
  rw [List.length_take, size_toList, Nat.min_eq_left hs] at hn
  have hp : (256 : Nat) ^ k ≤ 256 ^ 4 := Nat.pow_le_pow_right (by omega) h4
  unfold takeF nmH
  rw [if_neg (by omega), if_neg (by rw [size_toList]; omega), Int.toNat_natCast, toList_suf, wrap64_id _ (by omega) (by omega)]

/-- The closure 'number': the number ahead of what is left of a text, which is what is behind it then. -/
theorem number_cl (p : Nat) (c r : ByteArray) (k v : Int) (hv : takeF c.toList k = (v, r.toList, 0)) (hs : c.size ≤ 9223372036854775807) (w : World) (hB : Bk w p 9 #[.string c]) :
    Calls Tryd.prog 39 #[.int .i64 k, .pointer (some ⟨p, 0, none⟩)] w fun e w' => e = .returned (.int .i64 v) ∧ Bk w' p 9 #[.string r] ∧ w.grownBy w' (some p) := by
  have p0 : w.cell? ⟨p, 0, none⟩ = some (.string c) := hB.cell 0
  have Hv := Lib.hid hv
  clear hv
  go_enter Tryd.func39, Tryd.ntmps39
  go_wp2_with fail
  (with_reducible refine (takeF_is c r k v 0 _ hs Hv.out).mono ?_)
  rintro e w1 ⟨rfl, hb⟩
  have hB1 := hB.below' hb
  have p1 : w1.cell? ⟨p, 0, none⟩ = some (.string c) := hB1.cell 0
  have r1 := hB1.frozen 0
  have hB2 : Bk (w1.setCell ⟨p, 0, none⟩ (.string r)) p 9 #[.string r] := hB1.set_ 0 _
  have ho := only_trans (⟨hb.os, hb.tape, hb.output, hb.size, fun k hk _ => hb.block k hk⟩ : w.grownBy w1 (some p)) (only_set w1 p 0 (.string r))
  go_wp2_with fail
  go_ret
  exact ⟨rfl, hB2, ho⟩
/-- The closure 'text'. -/
theorem text_cl (p : Nat) (c a r : ByteArray) (k : Nat) (ha : c.extract 0 k = a) (hr : c.extract k c.size = r) (hk : k ≤ c.size) (hs : c.size ≤ 9223372036854775807) (w : World) (hB : Bk w p 9 #[.string c]) :
    Calls Tryd.prog 40 #[.int .i64 k, .pointer (some ⟨p, 0, none⟩)] w fun e w' => e = .returned (.string a) ∧ Bk w' p 9 #[.string r] ∧ w.grownBy w' (some p) := by
  have p0 : w.cell? ⟨p, 0, none⟩ = some (.string c) := hB.cell 0
  have r1 := hB.frozen 0
  subst ha
  subst hr
  have hB2 : Bk (w.setCell ⟨p, 0, none⟩ (.string (c.extract k c.size))) p 9 #[.string (c.extract k c.size)] := hB.set_ 0 _
  have ho := only_set w p 0 (.string (c.extract k c.size))
  go_enter Tryd.func40, Tryd.ntmps40
  go_wp2
  go_ret
  exact ⟨rfl, hB2, ho⟩
end Go.Proofs.YtaagdoaeefhleaaDoor
namespace Go.Proofs.YtaagdoaeefhleaaDoor
open Go.RowKit

/-- A header's bytes taken apart: each part, and what is left. -/
def Parts (s : ByteArray) (id : Int) (sa : ByteArray) (n bs raw : Int) (ro ta : ByteArray) (c1 c2 c3 c4 c5 c6 c7 c8 : ByteArray) : Prop :=
  s.extract 4 s.size = c1 ∧ c1.size = 94 ∧ takeF c1.toList 4 = (id, c2.toList, 0) ∧ c2.size = 90 ∧ c2.extract 0 16 = sa ∧ c2.extract 16 c2.size = c3 ∧ c3.size = 74 ∧ takeF c3.toList 2 = (n, c4.toList, 0) ∧ c4.size = 72 ∧
    takeF c4.toList 4 = (bs, c5.toList, 0) ∧ c5.size = 68 ∧ takeF c5.toList 4 = (raw, c6.toList, 0) ∧ c6.size = 64 ∧ c6.extract 0 32 = ro ∧ c6.extract 32 c6.size = c7 ∧ c7.size = 32 ∧ c7.extract 0 32 = ta ∧ c7.extract 32 c7.size = c8 ∧ c8.size = 0
theorem parts_of (s : ByteArray) (hs : s.size = 98) : ∃ id sa n bs raw ro ta c1 c2 c3 c4 c5 c6 c7 c8, Parts s id sa n bs raw ro ta c1 c2 c3 c4 c5 c6 c7 c8 := by
  obtain ⟨c1, h1⟩ : ∃ c, s.extract 4 s.size = c := ⟨_, rfl⟩
  have z1 : c1.size = 94 := by rw [← h1, suf_size _ _ (by omega)]; omega
  obtain ⟨c2, h2⟩ : ∃ c, c1.extract 4 c1.size = c := ⟨_, rfl⟩
  have z2 : c2.size = 90 := by rw [← h2, suf_size _ _ (by omega)]; omega
  obtain ⟨c3, h3⟩ : ∃ c, c2.extract 16 c2.size = c := ⟨_, rfl⟩
  have z3 : c3.size = 74 := by rw [← h3, suf_size _ _ (by omega)]; omega
  obtain ⟨c4, h4⟩ : ∃ c, c3.extract 2 c3.size = c := ⟨_, rfl⟩
  have z4 : c4.size = 72 := by rw [← h4, suf_size _ _ (by omega)]; omega
  obtain ⟨c5, h5⟩ : ∃ c, c4.extract 4 c4.size = c := ⟨_, rfl⟩
  have z5 : c5.size = 68 := by rw [← h5, suf_size _ _ (by omega)]; omega
  obtain ⟨c6, h6⟩ : ∃ c, c5.extract 4 c5.size = c := ⟨_, rfl⟩
  have z6 : c6.size = 64 := by rw [← h6, suf_size _ _ (by omega)]; omega
  obtain ⟨c7, h7⟩ : ∃ c, c6.extract 32 c6.size = c := ⟨_, rfl⟩
  have z7 : c7.size = 32 := by rw [← h7, suf_size _ _ (by omega)]; omega
  obtain ⟨c8, h8⟩ : ∃ c, c7.extract 32 c7.size = c := ⟨_, rfl⟩
  have z8 : c8.size = 0 := by rw [← h8, suf_size _ _ (by omega)]; omega
  refine ⟨nmH c1 4, _, nmH c3 2, nmH c4 4, nmH c5 4, _, _, c1, c2, c3, c4, c5, c6, c7, c8, h1, z1, ?_, z2, rfl, h3, z3, ?_, z4, ?_, z5, ?_, z6, rfl, h7, z7, rfl, h8, z8⟩
  · rw [← h2]; exact takeF_k c1 4 (by omega) (by omega) (by omega)
  · rw [← h4]; exact takeF_k c3 2 (by omega) (by omega) (by omega)
  · rw [← h5]; exact takeF_k c4 4 (by omega) (by omega) (by omega)
  · rw [← h6]; exact takeF_k c5 4 (by omega) (by omega) (by omega)

/-- What header.Take comes to, of bytes of the right size and mark. -/
def HTEnd (w : World) (b : Bool) (A : Array Value) (e : Ending) (w' : World) : Prop := e = .returned (.tuple #[if b then .agg A else .agg #[.int .i64 0, .string ⟨#[]⟩, .int .i64 0, .int .i64 0, .int .i64 0, .string ⟨#[]⟩, .string ⟨#[]⟩], .int .i64 (if b then 0 else 2)]) ∧ Below w.heap.size w w'
theorem hcheck_b (id : Int) (sa : ByteArray) (n bs raw : Int) (ro ta : ByteArray) (k : Int) (h : okE (hdrOk id sa n bs raw ro ta) = k) (w : World) :
    Calls Tryd.prog 35 #[.agg #[.int .i64 id, .string sa, .int .i64 n, .int .i64 bs, .int .i64 raw, .string ro, .string ta]] w fun e w' => e = .returned (.int .i64 k) ∧ Below w.heap.size w w' := by subst h; exact hcheck_any id sa n bs raw ro ta w

set_option maxRecDepth 20000 in
set_option maxHeartbeats 2000000 in
theorem htake_bad (s : ByteArray) (w : World) (hb : ¬ s.size = 98 ∨ (s.size = 98 ∧ ((s.extract 0 4).toList == [83, 76, 71, 49]) = false)) :
    Calls Tryd.prog 26 #[.string s] w fun e w' => e = .returned (.tuple #[.agg #[.int .i64 0, .string ⟨#[]⟩, .int .i64 0, .int .i64 0, .int .i64 0, .string ⟨#[]⟩, .string ⟨#[]⟩], .int .i64 2]) ∧ Below w.heap.size w w' := by
  have hB := ((Below.refl w.heap.size w).alloc (Nat.le_refl _) (.cells #[.string s] 9)).alloc (by simp) (.cells #[.int .i64 0, .string ⟨#[]⟩, .int .i64 0, .int .i64 0, .int .i64 0, .string ⟨#[]⟩, .string ⟨#[]⟩] 23)
  rcases hb with h | ⟨h, hq⟩
  · have h' : (((s.size : Nat) : Int) != 98) = true := by simp; omega
    clear h
    go_enter Tryd.func26, Tryd.ntmps26
    go_wp2
    exact bodyPost_ret (v := .tuple #[.agg #[.int .i64 0, .string ⟨#[]⟩, .int .i64 0, .int .i64 0, .int .i64 0, .string ⟨#[]⟩, .string ⟨#[]⟩], .int .i64 2]) (by simp [results, Tryd.results26, go_sem]) rfl ⟨rfl, hB⟩
  · have h' : ((s.size : Nat) : Int) = 98 := by omega
    clear h
    go_enter Tryd.func26, Tryd.ntmps26
    go_wp2
    exact bodyPost_ret (v := .tuple #[.agg #[.int .i64 0, .string ⟨#[]⟩, .int .i64 0, .int .i64 0, .int .i64 0, .string ⟨#[]⟩, .string ⟨#[]⟩], .int .i64 2]) (by simp [results, Tryd.results26, go_sem]) rfl ⟨rfl, hB⟩

set_option maxRecDepth 20000 in
set_option maxHeartbeats 4000000 in
theorem htake_parts (s : ByteArray) (w : World) (hs : s.size = 98) (hq : ((s.extract 0 4).toList == [83, 76, 71, 49]) = true) (id : Int) (sa : ByteArray) (n bs raw : Int) (ro ta : ByteArray) (c1 c2 c3 c4 c5 c6 c7 c8 : ByteArray) (hp : Parts s id sa n bs raw ro ta c1 c2 c3 c4 c5 c6 c7 c8) :
    Calls Tryd.prog 26 #[.string s] w (HTEnd w (hdrOk id sa n bs raw ro ta) #[.int .i64 id, .string sa, .int .i64 n, .int .i64 bs, .int .i64 raw, .string ro, .string ta]) := by
  obtain ⟨p1, z1, p2, z2, p3, p4, z3, p5, z4, p6, z5, p7, z6, p8, p9, z7, p10, p11, z8⟩ := hp
  have hs' : ((s.size : Nat) : Int) = 98 := by omega
  have Hp2 := Lib.hid p2
  have Hp3 := Lib.hid p3
  have Hp4 := Lib.hid p4
  have Hp5 := Lib.hid p5
  have Hp6 := Lib.hid p6
  have Hp7 := Lib.hid p7
  have Hp8 := Lib.hid p8
  have Hp9 := Lib.hid p9
  have Hp10 := Lib.hid p10
  have Hp11 := Lib.hid p11
  have Hz := Lib.hid (And.intro z1 (And.intro z2 (And.intro z3 (And.intro z4 (And.intro z5 (And.intro z6 z7))))))
  have p1' : s.extract 4 98 = c1 := by rw [← p1, hs]
  clear p2 p3 p4 p5 p6 p7 p8 p9 p10 p11 z1 z2 z3 z4 z5 z6 z7 z8 hs
  have b0 := True.intro
  go_enter Tryd.func26, Tryd.ntmps26
  go_upto_region 7 with (fail)
  have hP : Bk (((w.alloc (.cells #[.string c1] 9)).alloc (.cells #[.int .i64 0, .string ⟨#[]⟩, .int .i64 0, .int .i64 0, .int .i64 0, .string ⟨#[]⟩, .string ⟨#[]⟩] 23)).alloc (.cells #[.int .i64 0, .string ⟨#[]⟩, .int .i64 0, .int .i64 0, .int .i64 0, .string ⟨#[]⟩, .string ⟨#[]⟩] 23)) w.heap.size 9 #[.string c1] := Bk.alloc (Bk.alloc (Bk.new _ _ _) _) _
  have hR : Bk (((w.alloc (.cells #[.string c1] 9)).alloc (.cells #[.int .i64 0, .string ⟨#[]⟩, .int .i64 0, .int .i64 0, .int .i64 0, .string ⟨#[]⟩, .string ⟨#[]⟩] 23)).alloc (.cells #[.int .i64 0, .string ⟨#[]⟩, .int .i64 0, .int .i64 0, .int .i64 0, .string ⟨#[]⟩, .string ⟨#[]⟩] 23)) (w.heap.size + 1) 23 #[.int .i64 0, .string ⟨#[]⟩, .int .i64 0, .int .i64 0, .int .i64 0, .string ⟨#[]⟩, .string ⟨#[]⟩] := by
    have h := Bk.alloc (Bk.new (w.alloc (.cells #[.string c1] 9)) 23 #[.int .i64 0, .string ⟨#[]⟩, .int .i64 0, .int .i64 0, .int .i64 0, .string ⟨#[]⟩, .string ⟨#[]⟩]) (.cells #[.int .i64 0, .string ⟨#[]⟩, .int .i64 0, .int .i64 0, .int .i64 0, .string ⟨#[]⟩, .string ⟨#[]⟩] 23)
    rw [show (w.alloc (.cells #[.string c1] 9)).heap.size = w.heap.size + 1 from by simp] at h
    exact h
  have hG : Bk (((w.alloc (.cells #[.string c1] 9)).alloc (.cells #[.int .i64 0, .string ⟨#[]⟩, .int .i64 0, .int .i64 0, .int .i64 0, .string ⟨#[]⟩, .string ⟨#[]⟩] 23)).alloc (.cells #[.int .i64 0, .string ⟨#[]⟩, .int .i64 0, .int .i64 0, .int .i64 0, .string ⟨#[]⟩, .string ⟨#[]⟩] 23)) (w.heap.size + 1 + 1) 23 #[.int .i64 0, .string ⟨#[]⟩, .int .i64 0, .int .i64 0, .int .i64 0, .string ⟨#[]⟩, .string ⟨#[]⟩] := by
    have h := Bk.new ((w.alloc (.cells #[.string c1] 9)).alloc (.cells #[.int .i64 0, .string ⟨#[]⟩, .int .i64 0, .int .i64 0, .int .i64 0, .string ⟨#[]⟩, .string ⟨#[]⟩] 23)) 23 #[.int .i64 0, .string ⟨#[]⟩, .int .i64 0, .int .i64 0, .int .i64 0, .string ⟨#[]⟩, .string ⟨#[]⟩]
    rw [show ((w.alloc (.cells #[.string c1] 9)).alloc (.cells #[.int .i64 0, .string ⟨#[]⟩, .int .i64 0, .int .i64 0, .int .i64 0, .string ⟨#[]⟩, .string ⟨#[]⟩] 23)).heap.size = w.heap.size + 1 + 1 from by simp] at h
    exact h
  have hb : Below w.heap.size w (((w.alloc (.cells #[.string c1] 9)).alloc (.cells #[.int .i64 0, .string ⟨#[]⟩, .int .i64 0, .int .i64 0, .int .i64 0, .string ⟨#[]⟩, .string ⟨#[]⟩] 23)).alloc (.cells #[.int .i64 0, .string ⟨#[]⟩, .int .i64 0, .int .i64 0, .int .i64 0, .string ⟨#[]⟩, .string ⟨#[]⟩] 23)) := (((Below.refl w.heap.size w).alloc (Nat.le_refl _) (.cells #[.string c1] 9)).alloc (by simp) (.cells #[.int .i64 0, .string ⟨#[]⟩, .int .i64 0, .int .i64 0, .int .i64 0, .string ⟨#[]⟩, .string ⟨#[]⟩] 23)).alloc (by simp; omega) (.cells #[.int .i64 0, .string ⟨#[]⟩, .int .i64 0, .int .i64 0, .int .i64 0, .string ⟨#[]⟩, .string ⟨#[]⟩] 23)
  generalize ((w.alloc (.cells #[.string c1] 9)).alloc (.cells #[.int .i64 0, .string ⟨#[]⟩, .int .i64 0, .int .i64 0, .int .i64 0, .string ⟨#[]⟩, .string ⟨#[]⟩] 23)).alloc (.cells #[.int .i64 0, .string ⟨#[]⟩, .int .i64 0, .int .i64 0, .int .i64 0, .string ⟨#[]⟩, .string ⟨#[]⟩] 23) = w0 at *
  clear b0 hq hs' p1 p1'
  obtain ⟨z1, z2, z3, z4, z5, z6, z7⟩ := Hz.out
  go_wp2_with fail
  refine (number_cl w.heap.size c1 c2 4 id Hp2.out (by omega) _ hP).mono ?_
  rintro e w1 ⟨rfl, hP1, ho1⟩
  have hR1 := hR.only ho1 (by omega)
  have hG1 := hG.only ho1 (by omega)
  have hb1 := hb.trans (below_only (B := w.heap.size) ho1 (Nat.le_refl _) hb.size)
  clear hP hR hG hb ho1
  have q0 : w1.cell? ⟨w.heap.size + 1 + 1, 0, none⟩ = some (.int .i64 0) := hG1.cell 0
  have q1 := hG1.frozen 0
  have ho2 := only_set w1 (w.heap.size + 1 + 1) 0 (.int .i64 id)
  have hG : Bk (w1.setCell ⟨w.heap.size + 1 + 1, 0, none⟩ (.int .i64 id)) (w.heap.size + 1 + 1) 23 #[.int .i64 id, .string ⟨#[]⟩, .int .i64 0, .int .i64 0, .int .i64 0, .string ⟨#[]⟩, .string ⟨#[]⟩] := hG1.set_ 0 _
  have hP := hP1.only ho2 (by omega)
  have hR := hR1.only ho2 (by omega)
  have hb := hb1.trans (below_only (B := w.heap.size) ho2 (by omega) hb1.size)
  clear hP1 hR1 hG1 hb1 ho2
  go_upto_region 8 with (fail)
  generalize w1.setCell ⟨w.heap.size + 1 + 1, 0, none⟩ (.int .i64 id) = w2 at *
  clear q0 q1
  go_wp2_with fail
  refine (text_cl w.heap.size c2 sa c3 16 Hp3.out Hp4.out (by omega) (by omega) _ hP).mono ?_
  rintro e w1 ⟨rfl, hP1, ho1⟩
  have hR1 := hR.only ho1 (by omega)
  have hG1 := hG.only ho1 (by omega)
  have hb1 := hb.trans (below_only (B := w.heap.size) ho1 (Nat.le_refl _) hb.size)
  clear hP hR hG hb ho1
  have q0 : w1.cell? ⟨w.heap.size + 1 + 1, 1, none⟩ = some (.string ⟨#[]⟩) := hG1.cell 1
  have q1 := hG1.frozen 1
  have ho2 := only_set w1 (w.heap.size + 1 + 1) 1 (.string sa)
  have hG : Bk (w1.setCell ⟨w.heap.size + 1 + 1, 1, none⟩ (.string sa)) (w.heap.size + 1 + 1) 23 #[.int .i64 id, .string sa, .int .i64 0, .int .i64 0, .int .i64 0, .string ⟨#[]⟩, .string ⟨#[]⟩] := hG1.set_ 1 _
  have hP := hP1.only ho2 (by omega)
  have hR := hR1.only ho2 (by omega)
  have hb := hb1.trans (below_only (B := w.heap.size) ho2 (by omega) hb1.size)
  clear hP1 hR1 hG1 hb1 ho2
  go_upto_region 9 with (fail)
  generalize w1.setCell ⟨w.heap.size + 1 + 1, 1, none⟩ (.string sa) = w2 at *
  clear q0 q1
  go_wp2_with fail
  refine (number_cl w.heap.size c3 c4 2 n Hp5.out (by omega) _ hP).mono ?_
  rintro e w1 ⟨rfl, hP1, ho1⟩
  have hR1 := hR.only ho1 (by omega)
  have hG1 := hG.only ho1 (by omega)
  have hb1 := hb.trans (below_only (B := w.heap.size) ho1 (Nat.le_refl _) hb.size)
  clear hP hR hG hb ho1
  have q0 : w1.cell? ⟨w.heap.size + 1 + 1, 2, none⟩ = some (.int .i64 0) := hG1.cell 2
  have q1 := hG1.frozen 2
  have ho2 := only_set w1 (w.heap.size + 1 + 1) 2 (.int .i64 n)
  have hG : Bk (w1.setCell ⟨w.heap.size + 1 + 1, 2, none⟩ (.int .i64 n)) (w.heap.size + 1 + 1) 23 #[.int .i64 id, .string sa, .int .i64 n, .int .i64 0, .int .i64 0, .string ⟨#[]⟩, .string ⟨#[]⟩] := hG1.set_ 2 _
  have hP := hP1.only ho2 (by omega)
  have hR := hR1.only ho2 (by omega)
  have hb := hb1.trans (below_only (B := w.heap.size) ho2 (by omega) hb1.size)
  clear hP1 hR1 hG1 hb1 ho2
  go_upto_region 10 with (fail)
  generalize w1.setCell ⟨w.heap.size + 1 + 1, 2, none⟩ (.int .i64 n) = w2 at *
  clear q0 q1
  go_wp2_with fail
  refine (number_cl w.heap.size c4 c5 4 bs Hp6.out (by omega) _ hP).mono ?_
  rintro e w1 ⟨rfl, hP1, ho1⟩
  have hR1 := hR.only ho1 (by omega)
  have hG1 := hG.only ho1 (by omega)
  have hb1 := hb.trans (below_only (B := w.heap.size) ho1 (Nat.le_refl _) hb.size)
  clear hP hR hG hb ho1
  have q0 : w1.cell? ⟨w.heap.size + 1 + 1, 3, none⟩ = some (.int .i64 0) := hG1.cell 3
  have q1 := hG1.frozen 3
  have ho2 := only_set w1 (w.heap.size + 1 + 1) 3 (.int .i64 bs)
  have hG : Bk (w1.setCell ⟨w.heap.size + 1 + 1, 3, none⟩ (.int .i64 bs)) (w.heap.size + 1 + 1) 23 #[.int .i64 id, .string sa, .int .i64 n, .int .i64 bs, .int .i64 0, .string ⟨#[]⟩, .string ⟨#[]⟩] := hG1.set_ 3 _
  have hP := hP1.only ho2 (by omega)
  have hR := hR1.only ho2 (by omega)
  have hb := hb1.trans (below_only (B := w.heap.size) ho2 (by omega) hb1.size)
  clear hP1 hR1 hG1 hb1 ho2
  go_upto_region 11 with (fail)
  generalize w1.setCell ⟨w.heap.size + 1 + 1, 3, none⟩ (.int .i64 bs) = w2 at *
  clear q0 q1
  go_wp2_with fail
  refine (number_cl w.heap.size c5 c6 4 raw Hp7.out (by omega) _ hP).mono ?_
  rintro e w1 ⟨rfl, hP1, ho1⟩
  have hR1 := hR.only ho1 (by omega)
  have hG1 := hG.only ho1 (by omega)
  have hb1 := hb.trans (below_only (B := w.heap.size) ho1 (Nat.le_refl _) hb.size)
  clear hP hR hG hb ho1
  have q0 : w1.cell? ⟨w.heap.size + 1 + 1, 4, none⟩ = some (.int .i64 0) := hG1.cell 4
  have q1 := hG1.frozen 4
  have ho2 := only_set w1 (w.heap.size + 1 + 1) 4 (.int .i64 raw)
  have hG : Bk (w1.setCell ⟨w.heap.size + 1 + 1, 4, none⟩ (.int .i64 raw)) (w.heap.size + 1 + 1) 23 #[.int .i64 id, .string sa, .int .i64 n, .int .i64 bs, .int .i64 raw, .string ⟨#[]⟩, .string ⟨#[]⟩] := hG1.set_ 4 _
  have hP := hP1.only ho2 (by omega)
  have hR := hR1.only ho2 (by omega)
  have hb := hb1.trans (below_only (B := w.heap.size) ho2 (by omega) hb1.size)
  clear hP1 hR1 hG1 hb1 ho2
  go_upto_region 12 with (fail)
  generalize w1.setCell ⟨w.heap.size + 1 + 1, 4, none⟩ (.int .i64 raw) = w2 at *
  clear q0 q1
  go_wp2_with fail
  refine (text_cl w.heap.size c6 ro c7 32 Hp8.out Hp9.out (by omega) (by omega) _ hP).mono ?_
  rintro e w1 ⟨rfl, hP1, ho1⟩
  have hR1 := hR.only ho1 (by omega)
  have hG1 := hG.only ho1 (by omega)
  have hb1 := hb.trans (below_only (B := w.heap.size) ho1 (Nat.le_refl _) hb.size)
  clear hP hR hG hb ho1
  have q0 : w1.cell? ⟨w.heap.size + 1 + 1, 5, none⟩ = some (.string ⟨#[]⟩) := hG1.cell 5
  have q1 := hG1.frozen 5
  have ho2 := only_set w1 (w.heap.size + 1 + 1) 5 (.string ro)
  have hG : Bk (w1.setCell ⟨w.heap.size + 1 + 1, 5, none⟩ (.string ro)) (w.heap.size + 1 + 1) 23 #[.int .i64 id, .string sa, .int .i64 n, .int .i64 bs, .int .i64 raw, .string ro, .string ⟨#[]⟩] := hG1.set_ 5 _
  have hP := hP1.only ho2 (by omega)
  have hR := hR1.only ho2 (by omega)
  have hb := hb1.trans (below_only (B := w.heap.size) ho2 (by omega) hb1.size)
  clear hP1 hR1 hG1 hb1 ho2
  go_upto_region 13 with (fail)
  generalize w1.setCell ⟨w.heap.size + 1 + 1, 5, none⟩ (.string ro) = w2 at *
  clear q0 q1
  go_wp2_with fail
  refine (text_cl w.heap.size c7 ta c8 32 Hp10.out Hp11.out (by omega) (by omega) _ hP).mono ?_
  rintro e w1 ⟨rfl, hP1, ho1⟩
  have hR1 := hR.only ho1 (by omega)
  have hG1 := hG.only ho1 (by omega)
  have hb1 := hb.trans (below_only (B := w.heap.size) ho1 (Nat.le_refl _) hb.size)
  clear hP hR hG hb ho1
  have q0 : w1.cell? ⟨w.heap.size + 1 + 1, 6, none⟩ = some (.string ⟨#[]⟩) := hG1.cell 6
  have q1 := hG1.frozen 6
  have ho2 := only_set w1 (w.heap.size + 1 + 1) 6 (.string ta)
  have hG : Bk (w1.setCell ⟨w.heap.size + 1 + 1, 6, none⟩ (.string ta)) (w.heap.size + 1 + 1) 23 #[.int .i64 id, .string sa, .int .i64 n, .int .i64 bs, .int .i64 raw, .string ro, .string ta] := hG1.set_ 6 _
  have hP := hP1.only ho2 (by omega)
  have hR := hR1.only ho2 (by omega)
  have hb := hb1.trans (below_only (B := w.heap.size) ho2 (by omega) hb1.size)
  clear hP1 hR1 hG1 hb1 ho2
  go_upto_region 14 with (fail)
  generalize w1.setCell ⟨w.heap.size + 1 + 1, 6, none⟩ (.string ta) = w2 at *
  clear q0 q1
  obtain ⟨k, hk⟩ : ∃ k, okE (hdrOk id sa n bs raw ro ta) = k := ⟨_, rfl⟩
  have Hk := Lib.hid hk
  have g0 := hG.cell 0
  have g1 := hG.cell 1
  have g2 := hG.cell 2
  have g3 := hG.cell 3
  have g4 := hG.cell 4
  have g5 := hG.cell 5
  have g6 := hG.cell 6
  simp only [List.getElem?_toArray, List.getElem?_cons_succ, List.getElem?_cons_zero] at g0 g1 g2 g3 g4 g5 g6
  go_wp2_with fail
  (with_reducible refine (hcheck_b id sa n bs raw ro ta k Hk.out _).mono ?_)
  rintro e w5 ⟨rfl, hb5⟩
  have hR5 := hR.below' hb5
  have hG5 := hG.below' hb5
  have hb6 := below_then hb hb5 hb.size
  clear g0 g1 g2 g3 g4 g5 g6 hR hG hb hb5 hP
  have r0 := hR5.cell 0
  have r1 := hR5.cell 1
  have r2 := hR5.cell 2
  have r3 := hR5.cell 3
  have r4 := hR5.cell 4
  have r5 := hR5.cell 5
  have r6 := hR5.cell 6
  have g0 := hG5.cell 0
  have g1 := hG5.cell 1
  have g2 := hG5.cell 2
  have g3 := hG5.cell 3
  have g4 := hG5.cell 4
  have g5 := hG5.cell 5
  have g6 := hG5.cell 6
  simp only [List.getElem?_toArray, List.getElem?_cons_succ, List.getElem?_cons_zero] at g0 g1 g2 g3 g4 g5 g6 r0 r1 r2 r3 r4 r5 r6
  have f0 := hR5.frozen 0
  have f1 := hR5.frozen 1
  have f2 := hR5.frozen 2
  have f3 := hR5.frozen 3
  have f4 := hR5.frozen 4
  have f5 := hR5.frozen 5
  have f6 := hR5.frozen 6
  have hbF : ∀ v0 v1 v2 v3 v4 v5 v6 : Value, Below w.heap.size w (((((((w5.setCell ⟨w.heap.size + 1, 0, none⟩ v0).setCell ⟨w.heap.size + 1, 1, none⟩ v1).setCell ⟨w.heap.size + 1, 2, none⟩ v2).setCell ⟨w.heap.size + 1, 3, none⟩ v3).setCell ⟨w.heap.size + 1, 4, none⟩ v4).setCell ⟨w.heap.size + 1, 5, none⟩ v5).setCell ⟨w.heap.size + 1, 6, none⟩ v6) := fun v0 v1 v2 v3 v4 v5 v6 =>
    ((((((hb6.setCell (by show w.heap.size ≤ w.heap.size + 1; omega) _).setCell (by show w.heap.size ≤ w.heap.size + 1; omega) _).setCell (by show w.heap.size ≤ w.heap.size + 1; omega) _).setCell (by show w.heap.size ≤ w.heap.size + 1; omega) _).setCell (by show w.heap.size ≤ w.heap.size + 1; omega) _).setCell (by show w.heap.size ≤ w.heap.size + 1; omega) _).setCell (by show w.heap.size ≤ w.heap.size + 1; omega) _
  cases hd : hdrOk id sa n bs raw ro ta with
  | true =>
    rw [hd] at hk
    have hk0 : k = 0 := hk.symm
    subst hk0
    have Hd := Lib.hid hd
    clear hk hd
    go_wp2_with fail
    exact bodyPost_ret (v := .tuple #[.agg #[.int .i64 id, .string sa, .int .i64 n, .int .i64 bs, .int .i64 raw, .string ro, .string ta], .int .i64 0]) (by simp [results, Tryd.results26, go_sem, r0, r1, r2, r3, r4, r5, r6]) rfl ⟨by rw [Hd.out]; rfl, hbF _ _ _ _ _ _ _⟩
  | false =>
    rw [hd] at hk
    have hk0 : k = 1 := hk.symm
    subst hk0
    have Hd := Lib.hid hd
    clear hk hd
    go_wp2_with fail
    exact bodyPost_ret (v := .tuple #[.agg #[.int .i64 0, .string ⟨#[]⟩, .int .i64 0, .int .i64 0, .int .i64 0, .string ⟨#[]⟩, .string ⟨#[]⟩], .int .i64 2]) (by simp [results, Tryd.results26, go_sem, r0, r1, r2, r3, r4, r5, r6]) rfl ⟨by rw [Hd.out]; rfl, hbF _ _ _ _ _ _ _⟩
end Go.Proofs.YtaagdoaeefhleaaDoor
