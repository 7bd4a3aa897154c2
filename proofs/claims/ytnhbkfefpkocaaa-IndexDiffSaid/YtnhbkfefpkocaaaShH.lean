/-
  sha: the sum of one text.
-/
import Derived.Test.YtnhbkfefpkocaaaShG
namespace Go.Proofs.Ytnhbkfefpkocaaa
open Go.RowKit Go.Lib

theorem blocks_split : ∀ (k j : Nat) (H : List Nat) (s p : List UInt8), 64 * k ≤ s.length → blocksW (k + j) H (s ++ p) = blocksW j (blocksW k H s) (s.drop (64 * k) ++ p)
  | 0, j, H, s, p, _ => by simp [blocksW]
  | k + 1, j, H, s, p, h => by
    rw [show k + 1 + j = (k + j) + 1 by omega]
    simp only [blocksW]
    rw [List.take_append_of_le_length (by omega), List.drop_append_of_le_length (by omega), blocks_split k j _ (s.drop 64) p (by rw [List.length_drop]; omega), List.drop_drop, show 64 + 64 * k = 64 * (k + 1) by omega]
theorem sha_blocks (s : List UInt8) : blocksW ((s.length % 64 + (padW s.length).length) / 64) (blocksW (s.length / 64) startW s) (s.drop (64 * (s.length / 64)) ++ padW s.length) = blocksW ((s.length + (padW s.length).length) / 64) startW (s ++ padW s.length) := by
  rw [← blocks_split (s.length / 64) _ startW s (padW s.length) (by omega)]
  congr 1
  omega

/-- What a hash box holds ahead of its text (0) and behind it. -/
def SumAt (w wr : World) (s : ByteArray) (i : Nat) : Prop :=
  Below w.heap.size w wr ∧ ((i = 0 ∧ Bk wr w.heap.size 127 (hrow startW (.slice none 0 0) 0)) ∨ (i = 1 ∧ ∃ A c, Bk wr w.heap.size 127 (hrow (blocksW (s.size / 64) startW s.toList) (.slice A (s.size % 64) c) s.size) ∧ Rd wr A (byteVals (s.toList.drop (64 * (s.size / 64))))))

set_option maxRecDepth 20000 in
set_option maxHeartbeats 1000000 in
theorem shaSum_any (s : ByteArray) (A : Option Addr) (c : Nat) (w : World) (hs : s.size ≤ 1000000000) (hr : Rd w A [.string s]) :
    Calls Try.prog 37 #[.slice A 1 c] w fun e w' => e = .returned (.string (ofL (shaW s.toList))) ∧ Below w.heap.size w w' := by
  obtain ⟨b, o, rfl, hcell⟩ := hr (by simp)
  have hc0 : w.cell? ⟨b, o, none⟩ = some (.string s) := hcell 0 _ rfl
  have HC := Lib.hid hc0
  clear hcell hr hc0
  go_enter Try.func37, Try.ntmps37
  go_wp2_with fail
  refine (shaNew_any _).mono ?_
  rintro e w1 ⟨rfl, hw1⟩
  have H1 : Hid (SumAt w w1 s 0) := Lib.hid ⟨by rw [hw1]; exact (Below.refl _ w).alloc (Nat.le_refl _) _, Or.inl ⟨rfl, by rw [hw1]; exact Bk.new w _ _⟩⟩
  clear hw1
  go_wp2_with fail
  go_loopw [9] (fun vi wr => ∃ i : Nat, vi = .int .i64 (i : Nat) ∧ i ≤ 1 ∧ Hid (SumAt w wr s i)) (fun vi _ => 1 - (intOf vi).toNat)
  case atStart => exact ⟨0, rfl, by omega, H1⟩
  case round =>
    clear H1
    obtain ⟨i, rfl, hi, HS⟩ := hrel
    have h01 : i = 0 ∨ i = 1 := by omega
    rcases h01 with rfl | rfl
    · have hcc : wr.cell? ⟨b, o, none⟩ = some (.string s) := (HS.out.1.cell (World.block_lt_of_cell? w _ HC.out)).trans HC.out
      have hbk : Bk wr w.heap.size 127 (hrow startW (.slice none 0 0) 0) := by
        rcases HS.out.2 with ⟨_, h⟩ | ⟨h, _⟩
        · exact h
        · cases h
      have HBK := Lib.hid hbk
      clear hbk
      go_wp2_with fail
      refine (write_any s w.heap.size wr hs HBK.out).mono ?_
      rintro e w2 ⟨rfl, A2, c2, hb2, _, _, hr2, hgr⟩
      have H2 : Hid (SumAt w w2 s 1) := Lib.hid ⟨HS.out.1.grown hgr HS.out.1.size (fun k hk => by cases hk; exact Nat.le_refl _), Or.inr ⟨rfl, A2, c2, hb2, hr2⟩⟩
      clear hb2 hr2 hgr
      go_wp2_with fail
      go_round
      case rel => exact ⟨1, rfl, by omega, H2⟩
      case measure => simp [intOf]
    · obtain ⟨A2, c2, hb2, hr2⟩ : ∃ A c, Bk wr w.heap.size 127 (hrow (blocksW (s.size / 64) startW s.toList) (.slice A (s.size % 64) c) s.size) ∧ Rd wr A (byteVals (s.toList.drop (64 * (s.size / 64)))) := by
        rcases HS.out.2 with ⟨h, _⟩ | ⟨_, h⟩
        · cases h
        · exact h
      have hbo : Wd8 (blocksW (s.size / 64) startW s.toList) := blocks_ok _ _ _ start_ok
      obtain ⟨a0, a1, a2, a3, a4, a5, a6, a7, hE⟩ := eight hbo.1
      have HE := Lib.hid (And.intro hE trivial)
      rw [hE] at hbo hb2
      have HB2 := Lib.hid (And.intro hb2 (And.intro hr2 hbo))
      clear hE hb2 hr2 hbo
      go_wp2_with fail
      refine (hsum_any a0 a1 a2 a3 a4 a5 a6 a7 (s.toList.drop (64 * (s.size / 64))) s.size (s.size % 64) w.heap.size A2 c2 wr hs rfl (by rw [List.length_drop, size_toList]; omega) HB2.out.2.2 HB2.out.1 HB2.out.2.1).mono ?_
      rintro e w3 ⟨rfl, hb3⟩
      have HF := Lib.hid (And.intro (HS.out.1.trans (hb3.mono HS.out.1.size)) trivial)
      have hval : Value.string (ofL ((blocksW ((s.size % 64 + (padW s.size).length) / 64) [a0, a1, a2, a3, a4, a5, a6, a7] (s.toList.drop (64 * (s.size / 64)) ++ padW s.size)).flatMap bytes4)) = .string (ofL (shaW s.toList)) := by
        have := sha_blocks s.toList
        rw [size_toList] at this
        rw [← HE.out.1, this]
        unfold shaW
        rw [size_toList]
      rw [hval]
      clear hval hb3
      go_wp2_with fail
      go_ret
      exact ⟨rfl, HF.out.1⟩
end Go.Proofs.Ytnhbkfefpkocaaa
