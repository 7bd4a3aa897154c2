/-
  The code's disk: Len, Dead, Fuse; of a disk that is none.
-/
import Derived.Test.YthjjdjhmaffoeaaGreatDoorDkH
namespace Go.Proofs.YthjjdjhmaffoeaaGreatDoor
open Go.RowKit Go.Maps

set_option maxRecDepth 20000 in
set_option maxHeartbeats 1000000 in
theorem len_any (w : World) (b g m : Nat) (S : St) (n : Nat) (h : DiskAt w b g m S n) :
    Calls Tryz.prog 38 #[.pointer (some ⟨b, 0, none⟩)] w fun e w' => e = .returned (.int .i64 n) ∧ Below w.heap.size w w' := by
  obtain ⟨cur, c, D, hB, _⟩ := h
  have p0 := hB.cell 0
  simp only [List.getElem?_toArray, List.getElem?_cons_zero] at p0
  clear hB
  go_enter Tryz.func38, Tryz.ntmps38
  go_wp2_with fail
  go_ret
  exact ⟨rfl, Below.refl _ _⟩
set_option maxRecDepth 20000 in
set_option maxHeartbeats 1000000 in
theorem dead_any (w : World) (b g m : Nat) (S : St) (n : Nat) (h : DiskAt w b g m S n) :
    Calls Tryz.prog 39 #[.pointer (some ⟨b, 0, none⟩)] w fun e w' => e = .returned (.bool S.dead) ∧ Below w.heap.size w w' := by
  have hc := h.cells
  obtain ⟨_, p3, _⟩ := hc
  clear h
  go_enter Tryz.func39, Tryz.ntmps39
  go_wp2_with fail
  all_goals try (go_quiet (fail))
  all_goals try go_wp2_with fail
  all_goals go_ret
  all_goals exact ⟨rfl, Below.refl _ _⟩
set_option maxRecDepth 20000 in
set_option maxHeartbeats 1000000 in
theorem fuse_any (w : World) (b g m : Nat) (S : St) (n : Nat) (h : DiskAt w b g m S n) (k : Int) (hk2 : k ≤ 9223372036854775807) :
    Calls Tryz.prog 10 #[.pointer (some ⟨b, 0, none⟩), .int .i64 k] w fun e w' => e = .returned (.tuple #[]) ∧ DiskAt w' b g m (S.setFuse k) n ∧ Keep3 b g m w w' := by
  have HD := Lib.hid h
  have hc := h.cells
  obtain ⟨_, p3, f2, _⟩ := hc
  clear h
  cases hd : S.dead with
  | true =>
    have HR := Lib.hid (show S.setFuse k = S by unfold St.setFuse; rw [hd]; rfl)
    rw [hd] at p3
    clear hd
    go_enter Tryz.func10, Tryz.ntmps10
    go_wp2_with fail
    go_end0
    exact ⟨rfl, by rw [HR.out]; exact HD.out, Keep3.refl _ _ _ _⟩
  | false =>
    have HR := Lib.hid (show S.setFuse k = { S with fuse := max k (-1) } by unfold St.setFuse; rw [hd]; rfl)
    rw [hd] at p3
    clear hd
    go_enter Tryz.func10, Tryz.ntmps10
    go_wp2_with fail
    all_goals go_end0
    all_goals
      refine ⟨rfl, ?_, Keep3.of_only (only_set _ _ _ _) (.inl rfl)⟩
      rw [HR.out]
      refine (congrArg (fun x => DiskAt (w.setCell ⟨b, 2, none⟩ (.int .i64 x)) b g m { S with fuse := max k (-1) } n) ?_).mp (HD.out.fuseTo (max k (-1)) (by omega) (by omega))
      omega

/-! Of a disk that is none. -/
set_option maxRecDepth 20000 in
set_option maxHeartbeats 1000000 in
theorem none_may (w : World) (i : Int) :
    Calls Tryz.prog 33 #[.pointer none, .int .i64 i] w fun e w' => e = .returned (.int .i64 8) ∧ Below w.heap.size w w' := by
  go_enter Tryz.func33, Tryz.ntmps33
  go_wp2_with fail
  go_ret
  exact ⟨rfl, Below.refl _ _⟩
set_option maxRecDepth 20000 in
set_option maxHeartbeats 1000000 in
theorem none_read (w : World) (i : Int) :
    Calls Tryz.prog 26 #[.pointer none, .int .i64 i] w fun e w' => e = .returned (.tuple #[.string ⟨#[]⟩, .int .i64 8]) ∧ Below w.heap.size w w' := by
  go_enter Tryz.func26, Tryz.ntmps26
  go_wp2_with fail
  (with_reducible refine (none_may w i).mono ?_)
  rintro e w1 ⟨rfl, hb1⟩
  go_wp2_with fail
  go_ret2
  exact ⟨rfl, hb1⟩
set_option maxRecDepth 20000 in
set_option maxHeartbeats 1000000 in
theorem none_write (w : World) (i : Int) (s : ByteArray) :
    Calls Tryz.prog 12 #[.pointer none, .int .i64 i, .string s] w fun e w' => e = .returned (.int .i64 8) ∧ Below w.heap.size w w' := by
  go_enter Tryz.func12, Tryz.ntmps12
  go_wp2_with fail
  (with_reducible refine (none_may w i).mono ?_)
  rintro e w1 ⟨rfl, hb1⟩
  go_wp2_with fail
  go_ret
  exact ⟨rfl, hb1⟩
set_option maxRecDepth 20000 in
set_option maxHeartbeats 1000000 in
theorem none_sync (w : World) :
    Calls Tryz.prog 14 #[.pointer none] w fun e w' => e = .returned (.int .i64 8) ∧ Below w.heap.size w w' := by
  go_enter Tryz.func14, Tryz.ntmps14
  go_wp2_with fail
  (with_reducible refine (none_may w 0).mono ?_)
  rintro e w1 ⟨rfl, hb1⟩
  go_wp2_with fail
  go_ret
  exact ⟨rfl, hb1⟩
set_option maxRecDepth 20000 in
set_option maxHeartbeats 1000000 in
theorem none_len (w : World) :
    Calls Tryz.prog 38 #[.pointer none] w fun e w' => e = .returned (.int .i64 0) ∧ Below w.heap.size w w' := by
  go_enter Tryz.func38, Tryz.ntmps38
  go_wp2_with fail
  go_ret
  exact ⟨rfl, Below.refl _ _⟩
set_option maxRecDepth 20000 in
set_option maxHeartbeats 1000000 in
theorem none_dead (w : World) :
    Calls Tryz.prog 39 #[.pointer none] w fun e w' => e = .returned (.bool true) ∧ Below w.heap.size w w' := by
  go_enter Tryz.func39, Tryz.ntmps39
  go_wp2_with fail
  all_goals try (go_quiet (fail))
  all_goals try go_wp2_with fail
  all_goals go_ret
  all_goals exact ⟨rfl, Below.refl _ _⟩
set_option maxRecDepth 20000 in
set_option maxHeartbeats 1000000 in
theorem none_uns (w : World) :
    Calls Tryz.prog 36 #[.pointer none] w fun e w' => e = .returned (.slice none 0 0) ∧ Below w.heap.size w w' := by
  go_enter Tryz.func36, Tryz.ntmps36
  go_wp2_with fail
  go_ret
  exact ⟨rfl, Below.refl _ _⟩
set_option maxRecDepth 20000 in
set_option maxHeartbeats 1000000 in
theorem none_fuse (w : World) (k : Int) :
    Calls Tryz.prog 10 #[.pointer none, .int .i64 k] w fun e w' => e = .returned (.tuple #[]) ∧ Below w.heap.size w w' := by
  go_enter Tryz.func10, Tryz.ntmps10
  go_wp2_with fail
  go_end0
  exact ⟨rfl, Below.refl _ _⟩
set_option maxRecDepth 20000 in
set_option maxHeartbeats 1000000 in
theorem none_crash (w : World) (k : Int) :
    Calls Tryz.prog 16 #[.pointer none, .int .i64 k] w fun e w' => e = .returned (.tuple #[]) ∧ Below w.heap.size w w' := by
  go_enter Tryz.func16, Tryz.ntmps16
  go_wp2_with fail
  refine bodyPost_ret (results_none rfl _ _ _) rfl ?_
  exact ⟨rfl, Below.refl _ _⟩
end Go.Proofs.YthjjdjhmaffoeaaGreatDoor
