/-
  The code's disk: Len, Dead, Fuse; of a disk that is none.
-/
import Derived.Test.YthjjdjhmaffoeaaDoorDkH
namespace Go.Proofs.YthjjdjhmaffoeaaDoor
open Go.RowKit Go.Maps

set_option maxRecDepth 20000 in
set_option maxHeartbeats 1000000 in
theorem fuse_any (w : World) (b g m : Nat) (S : St) (n : Nat) (h : DiskAt w b g m S n) (k : Int) (hk2 : k ≤ 9223372036854775807) :
    Calls Tryd.prog 10 #[.pointer (some ⟨b, 0, none⟩), .int .i64 k] w fun e w' => e = .returned (.tuple #[]) ∧ DiskAt w' b g m (S.setFuse k) n ∧ Keep3 b g m w w' := by
  have HD := Lib.hid h
  have hc := h.cells
  obtain ⟨_, p3, f2, _⟩ := hc
  clear h
  cases hd : S.dead with
  | true =>
    have HR := Lib.hid (show S.setFuse k = S by unfold St.setFuse; rw [hd]; rfl)
    rw [hd] at p3
    clear hd
    go_enter Tryd.func10, Tryd.ntmps10
    go_wp2_with fail
    go_end0
    exact ⟨rfl, by rw [HR.out]; exact HD.out, Keep3.refl _ _ _ _⟩
  | false =>
    have HR := Lib.hid (show S.setFuse k = { S with fuse := max k (-1) } by unfold St.setFuse; rw [hd]; rfl)
    rw [hd] at p3
    clear hd
    go_enter Tryd.func10, Tryd.ntmps10
    go_wp2_with fail
    all_goals go_end0
    all_goals
      refine ⟨rfl, ?_, Keep3.of_only (only_set _ _ _ _) (.inl rfl)⟩
      rw [HR.out]
      refine (congrArg (fun x => DiskAt (w.setCell ⟨b, 2, none⟩ (.int .i64 x)) b g m { S with fuse := max k (-1) } n) ?_).mp (HD.out.fuseTo (max k (-1)) (by omega) (by omega))
      omega

/-! Of a disk that is none. -/
set_option maxRecDepth 20000 in
set_option maxHeartbeats 1000000 in
theorem none_may (w : World) (i : Int) :
    Calls Tryd.prog 14 #[.pointer none, .int .i64 i] w fun e w' => e = .returned (.int .i64 8) ∧ Below w.heap.size w w' := by
  go_enter Tryd.func14, Tryd.ntmps14
  go_wp2_with fail
  go_ret
  exact ⟨rfl, Below.refl _ _⟩
set_option maxRecDepth 20000 in
set_option maxHeartbeats 1000000 in
theorem none_read (w : World) (i : Int) :
    Calls Tryd.prog 19 #[.pointer none, .int .i64 i] w fun e w' => e = .returned (.tuple #[.string ⟨#[]⟩, .int .i64 8]) ∧ Below w.heap.size w w' := by
  go_enter Tryd.func19, Tryd.ntmps19
  go_wp2_with fail
  (with_reducible refine (none_may w i).mono ?_)
  rintro e w1 ⟨rfl, hb1⟩
  go_wp2_with fail
  go_ret2
  exact ⟨rfl, hb1⟩
set_option maxRecDepth 20000 in
set_option maxHeartbeats 1000000 in
theorem none_write (w : World) (i : Int) (s : ByteArray) :
    Calls Tryd.prog 6 #[.pointer none, .int .i64 i, .string s] w fun e w' => e = .returned (.int .i64 8) ∧ Below w.heap.size w w' := by
  go_enter Tryd.func6, Tryd.ntmps6
  go_wp2_with fail
  (with_reducible refine (none_may w i).mono ?_)
  rintro e w1 ⟨rfl, hb1⟩
  go_wp2_with fail
  go_ret
  exact ⟨rfl, hb1⟩
set_option maxRecDepth 20000 in
set_option maxHeartbeats 1000000 in
theorem none_sync (w : World) :
    Calls Tryd.prog 18 #[.pointer none] w fun e w' => e = .returned (.int .i64 8) ∧ Below w.heap.size w w' := by
  go_enter Tryd.func18, Tryd.ntmps18
  go_wp2_with fail
  (with_reducible refine (none_may w 0).mono ?_)
  rintro e w1 ⟨rfl, hb1⟩
  go_wp2_with fail
  go_ret
  exact ⟨rfl, hb1⟩
set_option maxRecDepth 20000 in
set_option maxHeartbeats 1000000 in
theorem none_uns (w : World) :
    Calls Tryd.prog 23 #[.pointer none] w fun e w' => e = .returned (.slice none 0 0) ∧ Below w.heap.size w w' := by
  go_enter Tryd.func23, Tryd.ntmps23
  go_wp2_with fail
  go_ret
  exact ⟨rfl, Below.refl _ _⟩
set_option maxRecDepth 20000 in
set_option maxHeartbeats 1000000 in
theorem none_fuse (w : World) (k : Int) :
    Calls Tryd.prog 10 #[.pointer none, .int .i64 k] w fun e w' => e = .returned (.tuple #[]) ∧ Below w.heap.size w w' := by
  go_enter Tryd.func10, Tryd.ntmps10
  go_wp2_with fail
  go_end0
  exact ⟨rfl, Below.refl _ _⟩
set_option maxRecDepth 20000 in
set_option maxHeartbeats 1000000 in
theorem none_crash (w : World) (k : Int) :
    Calls Tryd.prog 11 #[.pointer none, .int .i64 k] w fun e w' => e = .returned (.tuple #[]) ∧ Below w.heap.size w w' := by
  go_enter Tryd.func11, Tryd.ntmps11
  go_wp2_with fail
  refine bodyPost_ret (results_none rfl _ _ _) rfl ?_
  exact ⟨rfl, Below.refl _ _⟩
end Go.Proofs.YthjjdjhmaffoeaaDoor
