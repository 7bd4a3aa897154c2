/-
  slices.Repeat of one text; disk.New.
-/
import Derived.Test.YthjjdjhmaffoeaaGreatDoorDkK
import Derived.Laws.CopyOwn
import Derived.Deep.RegionLaw
import Derived.Deep.OwnRows
namespace Go.Proofs.YthjjdjhmaffoeaaGreatDoor
open Go.RowKit Go.Maps

/-- A row of n texts, the first p of which are z. -/
def fillR (z : ByteArray) (n p : Nat) : List Value := List.replicate p (.string z) ++ List.replicate (n - p) (.string ⟨#[]⟩)
theorem fillR_len (z : ByteArray) {n p : Nat} (h : p ≤ n) : (fillR z n p).length = n := by simp [fillR]; omega
theorem fillR_splice (z : ByteArray) {n p q : Nat} (h : p + q ≤ n) : splice (fillR z n p) p (List.replicate q (.string z)) = fillR z n (p + q) := by
  unfold splice fillR
  rw [List.take_left' (by simp), List.length_replicate, List.drop_append, List.length_replicate, List.drop_of_length_le (by simp), List.nil_append, List.drop_replicate, ← List.append_assoc, List.replicate_append_replicate]
  congr 2
  omega
theorem fillR_at (z : ByteArray) {n p j : Nat} (h : j < p) : (fillR z n p)[j]? = some (.string z) := by
  unfold fillR
  rw [List.getElem?_append_left (by simp; exact h), List.getElem?_replicate, if_pos h]
theorem fillR_all (z : ByteArray) (n p : Nat) : ∀ v ∈ fillR z n p, v.oneCell' = true := by
  intro v hv
  unfold fillR at hv
  rcases List.mem_append.1 hv with h | h <;> (rw [List.mem_replicate] at h; rw [h.2]; rfl)
theorem rep_all (z : ByteArray) (q : Nat) : ∀ v ∈ List.replicate q (Value.string z), v.oneCell' = true := by
  intro v hv
  rw [List.mem_replicate] at hv; rw [hv.2]; rfl
theorem mul_is (n : Nat) (hn : n ≤ 1024) (w : World) : Calls Tryz.prog 41 #[.int .u64 (1 : Int), .int .u64 (n : Int)] w fun e w' => e = .returned (.tuple #[.int .u64 0, .int .u64 (n : Int)]) ∧ w' = w := by
  have h := Tryz.bits_Mul 1 n (by omega) (by omega) w
  rw [show 1 * n / 18446744073709551616 = 0 by omega, show 1 * n % 18446744073709551616 = n by omega] at h
  exact h
theorem Tryz.info9z : (Tryz.prog.info? 9).map (fun i => (i.zero, i.size, i.bytes)) = some (some (.string ⟨#[]⟩), 1, 16) := by kernel_rfl
theorem Tryz.info9s : (Tryz.prog.info? 9).map (·.size) = some 1 := by kernel_rfl
theorem made_fill (z : ByteArray) (n : Nat) : (madeCells #[.string ⟨#[]⟩] n) = (fillR z n 0).toArray := by
  unfold fillR madeCells
  refine Array.ext (by simp) fun i h1 h2 => ?_
  simp [Nat.mod_one]

set_option maxRecDepth 100000 in
set_option maxHeartbeats 4000000 in
theorem repeat_any (w : World) (z : ByteArray) (n : Nat) (h1 : 1 ≤ n) (h2 : n ≤ 1024) (g0 cap0 : Nat) (hz : w.cell? ⟨g0, 0, none⟩ = some (.string z)) :
    Calls Tryz.prog 21 #[.slice (some ⟨g0, 0, none⟩) 1 cap0, .int .i64 (n : Int)] w fun e w' => ∃ g, e = .returned (.slice (some ⟨g, 0, none⟩) n n) ∧ w.heap.size ≤ g ∧ Bk w' g 9 (fillR z n n).toArray ∧ Below w.heap.size w w' := by
  have hmk := run_make_row' (P := Tryz.prog) 45 9 (.string ⟨#[]⟩) 16 Tryz.underlying45 Tryz.info9z rfl .i64 .i64 n (by omega) (by omega)
  have hn0 : ¬ (n : Int) < 0 := by omega
  have hn1 : ¬ (9223372036854775807 : Int) < (n : Int) := by omega
  have hw1 : IntKind.u64.wrap (n : Int) = (n : Int) := by rw [IntKind.wrap_u64]; omega
  have hw2 : IntKind.i64.wrap (n : Int) = (n : Int) := by rw [IntKind.wrap_i64]; omega
  have hcs : Nat.min 1 n = 1 := Nat.min_eq_left h1
  go_enter Tryz.func21, Tryz.ntmps21
  go_wp2_with fail
  (with_reducible refine (mul_is n h2 w).mono ?_)
  rintro e w1 ⟨rfl, rfl⟩
  rw [made_fill z n] at hmk
  have hG0 : Bk (w1.alloc (.cells (fillR z n 0).toArray 9)) w1.heap.size 9 (fillR z n 0).toArray := Bk.new w1 _ _
  have hzA : (w1.alloc (.cells (fillR z n 0).toArray 9)).cell? ⟨g0, 0, none⟩ = some (.string z) := (((Below.refl _ w1).alloc (Nat.le_refl _) (.cells (fillR z n 0).toArray 9)).cell (World.block_lt_of_cell? w1 _ hz)).trans hz
  have HB0 := Lib.hid ((Below.refl _ w1).alloc (Nat.le_refl _) (.cells (fillR z n 0).toArray 9))
  have HN := Lib.hid (And.intro h1 h2)
  go_wp2_with (first
    | (refine wpList_copy_splice rfl (.tmp 31) (.tmp 32) 45 45 rfl 9 Tryz.underlying45 Tryz.info9s (some ⟨w1.heap.size, 0, none⟩) (some ⟨g0, 0, none⟩) n n 1 cap0 rfl rfl w1.heap.size 0 (fillR z n 0) 9 hG0 [.string z] hcs.symm ?_ ?_ (rep_all z 1) w1.heap.size w1 HB0.out (Nat.le_refl _) ?_
       · exact fun _ => ⟨rfl, _, rfl, fun j v hj => by
           cases j with
           | zero => simp at hj; subst hj; exact hzA
           | succ j => simp at hj⟩
       · rw [fillR_len z (Nat.zero_le _)]; simp; exact h1
       intro w2 hg2 hb2)
    | fail)
  have HF2 : Hid (Bk w2 w1.heap.size 9 (fillR z n 1).toArray) := Lib.hid (by have h := hg2; rw [show [Value.string z] = List.replicate 1 (.string z) from rfl, fillR_splice z (by omega)] at h; exact h)
  have HB2 := Lib.hid hb2
  clear hg2 hb2 hG0 hzA hz hmk hcs HB0
  go_loopw [8] (fun i wr => ∃ p : Nat, 1 ≤ p ∧ p ≤ n ∧ i = .int .i64 p ∧ Hid (Bk wr w1.heap.size 9 (fillR z n p).toArray) ∧ Hid (Below w1.heap.size w1 wr)) (fun i _ => n - (intOf i).toNat)
  case atStart => exact ⟨1, Nat.le_refl _, h1, rfl, HF2, HB2⟩
  case round =>
    obtain ⟨p, hp1, hpn, rfl, HF, HB⟩ := hrel
    by_cases hlt : p < n
    · have hl1 : (p : Int) < (n : Int) := by omega
      have hl2 : (p : Int) ≤ (n : Int) := by omega
      have hl0 : (0 : Int) ≤ (p : Int) := by omega
      have hnp : ¬ n = p := by omega
      obtain ⟨q, hq⟩ : ∃ q, Nat.min p (n - p) = q := ⟨_, rfl⟩
      have hq1 : p + q ≤ n ∧ 1 ≤ q ∧ q ≤ p := by
        rw [← hq]
        show p + min p (n - p) ≤ n ∧ 1 ≤ min p (n - p) ∧ min p (n - p) ≤ p
        omega
      have HQ := Lib.hid hq1
      have HQ2 := Lib.hid hq
      have hF := HF.out
      have hwp : IntKind.i64.wrap ((p : Int) + (q : Int)) = (p : Int) + (q : Int) := by rw [IntKind.wrap_i64]; omega
      have hgi : goInt (List.replicate q (Value.string z)).length = .int .i64 (q : Int) := by rw [List.length_replicate]; rfl
      have hFd : wr.drew.heap[w1.heap.size]? = some (.cells (fillR z n p).toArray 9 (0, 0)) := hF
      clear hq hq1 hF
      go_wp2_with fail
      go_region_law (
        (refine step_copy_splice rfl (.tmp 41) (.tmp 44) 45 45 rfl 9 Tryz.underlying45 Tryz.info9s (some ⟨w1.heap.size, p, none⟩) (some ⟨w1.heap.size, 0, none⟩) (n - p) (n - p) p n (by simp [Act.eval, Act.put]) (by simp [Act.eval, Act.put]) w1.heap.size p (fillR z n p) 9 hFd (List.replicate q (.string z)) (by rw [List.length_replicate]; exact HQ2.out.symm) ?_ ?_ (rep_all z q) w1.heap.size w1 ?_ (Nat.le_refl _) ?_
         · exact fun _ => ⟨rfl, _, rfl, fun j v hj => by
             rw [List.getElem?_replicate] at hj
             split at hj
             · rename_i hjq
               cases hj
               have := Bk.cell (w := wr.drew) hFd j
               rw [List.getElem?_toArray, fillR_at z (by have := HQ.out; omega)] at this
               rw [add_mk, Nat.zero_add]
               exact this
             · cases hj⟩
         · rw [fillR_len z hpn, List.length_replicate]; exact HQ.out.1
         · exact HB.out.trans ⟨rfl, rfl, rfl, Nat.le_refl _, fun _ _ => rfl⟩
         rw [hgi]
         intro w3 hg3 hb3))
      all_goals
        have HF3 : Hid (Bk w3 w1.heap.size 9 (fillR z n (p + q)).toArray) := Lib.hid (by have h := hg3; rw [fillR_splice z HQ.out.1] at h; exact h)
        have HB3 := Lib.hid hb3
        clear hg3 hb3
        simp only [List.getElem_toArray, List.getElem_cons_succ, List.getElem_cons_zero, Act.put, List.setIfInBounds_toArray, List.set_cons_succ, List.set_cons_zero]
        go_wp2_with fail
        go_roundw
        case rel => exact ⟨p + q, by omega, HQ.out.1, congrArg _ (by omega), HF3, HB3⟩
        case measure => have := HQ.out; simp [intOf]; omega
    · have hl1 : ¬ (p : Int) < (n : Int) := by omega
      obtain rfl : p = n := by omega
      go_wp2_with fail
      go_ret
      exact ⟨_, rfl, Nat.le_refl _, HF.out, HB.out⟩
/-- disk.New. -/
theorem fill_old (z : ByteArray) (n : Nat) : (fillR z n n) = strs (List.replicate n z) := by
  unfold fillR strs
  simp
set_option maxRecDepth 100000 in
set_option maxHeartbeats 4000000 in
theorem new_bad (w : World) (k : Int) (h : k < 1 ∨ 1024 < k) :
    Calls Tryz.prog 4 #[.int .i64 k] w fun e w' => e = .returned (.tuple #[.pointer none, .int .i64 1]) ∧ Below w.heap.size w w' := by
  rcases h with h | h
  · go_enter Tryz.func4, Tryz.ntmps4
    go_wp2_with fail
    all_goals go_ret2
    all_goals exact ⟨rfl, Below.refl _ _⟩
  · have h1 : ¬ k < 1 := by omega
    go_enter Tryz.func4, Tryz.ntmps4
    go_wp2_with fail
    all_goals go_ret2
    all_goals exact ⟨rfl, Below.refl _ _⟩
set_option maxRecDepth 100000 in
set_option maxHeartbeats 4000000 in
theorem new_ok (w : World) (n : Nat) (h1 : 1 ≤ n) (h2 : n ≤ 1024) :
    Calls Tryz.prog 4 #[.int .i64 (n : Int)] w fun e w' => ∃ b g m, e = .returned (.tuple #[.pointer (some ⟨b, 0, none⟩), .int .i64 0]) ∧ DiskAt w' b g m (St.new n) n ∧ w.heap.size ≤ b ∧ w.heap.size ≤ g ∧ w.heap.size ≤ m ∧ Below w.heap.size w w' := by
  have hk1 : ¬ (n : Int) < 1 := by omega
  have hk2 : ¬ (1024 : Int) < (n : Int) := by omega
  obtain ⟨z, hz⟩ : ∃ z, ofL (List.replicate 256 0) = z := ⟨_, rfl⟩
  have HZ := Lib.hid hz
  have hmm := @run_makeMap Tryz.prog
  clear hz
  go_enter Tryz.func4, Tryz.ntmps4
  go_wp2_with fail
  (with_reducible refine (rep_is 256 256 rfl z HZ.out (by omega) w).mono ?_)
  rintro e w1 ⟨rfl, hb1⟩
  have HB1 := Lib.hid hb1
  clear hb1
  go_wp2_with fail
  (with_reducible refine (repeat_any _ z n h1 h2 _ _ ?_).mono ?_)
  · rw [World.cell?_alloc_mark]; rfl
  rintro e w2 ⟨g, rfl, hg, hG, hb2⟩
  have HB2 := Lib.hid (HB1.out.trans ((((Below.refl _ w1).alloc (Nat.le_refl _) _).trans (hb2.mono (by simp))).mono HB1.out.size))
  have HG := Lib.hid hG
  have HG1 : Hid (w.heap.size ≤ g) := Lib.hid (by have := HB1.out.size; simp at hg; omega)
  clear hb2 hG hg
  go_wp2_with fail
  go_ret2
  have hg := HG1.out
  have hgl := HG.out.lt
  have hz2 : z = fillS ⟨#[]⟩ := by
    rw [← HZ.out]
    refine str_eq ?_
    unfold fillS
    rw [toList_ofL, toList_ofL, toList_nil]
    rfl
  have hBN : Bk ((w2.alloc (.map #[] 0)).alloc (.cells #[.slice (some ⟨g, 0, none⟩) n n, .map (some w2.heap.size), .int .i64 (-1), .bool false] 49)) (w2.heap.size + 1) 49 #[.slice (some ⟨g, 0, none⟩) n n, .map (some w2.heap.size), .int .i64 (-1), .bool false] := by
    have := Bk.new (w2.alloc (.map #[] 0)) 49 #[.slice (some ⟨g, 0, none⟩) n n, .map (some w2.heap.size), .int .i64 (-1), .bool false]
    rw [World.size_alloc] at this
    exact this
  have hcells : ((fillR z n n).toArray).toList.take n = strs (St.new n).old := by
    rw [List.take_of_length_le (by simp [fillR]), List.toList_toArray, fill_old, hz2]
    rfl
  have hMM : ((w2.alloc (.map #[] 0)).alloc (.cells #[.slice (some ⟨g, 0, none⟩) n n, .map (some w2.heap.size), .int .i64 (-1), .bool false] 49)).ownsMap (H := Unit) Tryz.prog 3 (plainElem Tryz.prog 9) w2.heap.size 0 (.map []) := (World.ownsMap_made w2 _ _ _).alloc _
  have hsz := HB2.out.size
  refine ⟨w2.heap.size + 1, g, w2.heap.size, rfl, DiskAt.mk_clear hBN ((HG.out.alloc _).alloc _) hcells (Nat.le_refl _) hMM (Nat.zero_le _) rfl (by omega) (St.Ok.new n) h1 h2 (by show (-1 : Int) ≤ _; omega), by omega, hg, hsz, ?_⟩
  exact (HB2.out.alloc hsz _).alloc (by simp; omega) _
theorem new_at (w : World) (k : Int) (n : Nat) (hk : k = n) (h1 : 1 ≤ n) (h2 : n ≤ 1024) :
    Calls Tryz.prog 4 #[.int .i64 k] w fun e w' => ∃ b g m, e = .returned (.tuple #[.pointer (some ⟨b, 0, none⟩), .int .i64 0]) ∧ DiskAt w' b g m (St.new n) n ∧ w.heap.size ≤ b ∧ w.heap.size ≤ g ∧ w.heap.size ≤ m ∧ Below w.heap.size w w' := by
  subst hk
  exact new_ok w n h1 h2
end Go.Proofs.YthjjdjhmaffoeaaGreatDoor
