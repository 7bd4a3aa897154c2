/-
  The reference's sha: padded.
-/
import Derived.Test.YtnhbkfefpkocaaaSrB
import Derived.Test.YtnhbkfefpkocaaaConvB
namespace Go.Proofs.Ytnhbkfefpkocaaa
open Go.RowKit Go.Lib

theorem OwnB.shape {w : World} {base : Nat} {e : TypeId} {v : Value} {l : List UInt8} (h : OwnB w base e v l) {n : Nat} (hn : l.length = n) : ∃ g cap, v = .slice (some ⟨g, 0, none⟩) n cap := by
  obtain ⟨g, cap, _, _, h1, _⟩ := h
  rw [hn] at h1
  exact ⟨g, cap, h1⟩
theorem OwnB.to {w : World} {base : Nat} {e : TypeId} {v : Value} {l l' : List UInt8} (h : OwnB w base e v l) (he : l = l') : OwnB w base e v l' := by rw [← he]; exact h
theorem vlen_slice (p : Option Addr) (n c : Nat) : vlen (.slice p n c) = n := rfl
/-- The bytes ahead of the length. -/
def headW (s : List UInt8) (k : Nat) : List UInt8 := s ++ 128 :: List.replicate k 0
theorem headW_succ (s : List UInt8) (k : Nat) : headW s k ++ [0] = headW s (k + 1) := by
  unfold headW
  rw [List.append_assoc, List.cons_append, show List.replicate k (0 : UInt8) ++ [0] = List.replicate (k + 1) 0 from (List.replicate_succ' ..).symm]
theorem headW_len (s : List UInt8) (k : Nat) : (headW s k).length = s.length + 1 + k := by
  unfold headW
  simp
  omega

set_option maxRecDepth 20000 in
set_option maxHeartbeats 2000000 in
theorem padded_any (s : ByteArray) (hs : s.size ≤ 1000000000) (w : World) :
    Calls Try.prog 82 #[.string s] w fun e w' => RetS w (s.size + (padW s.size).length) (byteVals (s.toList ++ padW s.size)) e w' := by
  have hcv := Go.Lib.run_convert_string_bytes (P := Try.prog) w 9 80 5 s Try.underlying9 Try.underlying80 Try.underlying5
  have hO := OwnB.conv w 5 s (by unfold maxLen; omega)
  have hb0 := Go.Lib.bytesWorld_below w 5 s
  obtain ⟨cp, hcp⟩ : ∃ cp, grownCap w s.size 0 5 = cp := ⟨_, rfl⟩
  rw [hcp] at hcv hO
  generalize Go.Lib.bytesWorld w 5 s = w1 at *
  have HO := Lib.hid hO
  have HB := Lib.hid hb0
  obtain ⟨L, hL⟩ : ∃ L, s.toList = L := ⟨_, rfl⟩
  have hLN : L.length = s.size := by rw [← hL, size_toList]
  have HL := Lib.hid (And.intro hL (And.intro hLN trivial))
  rw [hL] at HO
  obtain ⟨N, hN⟩ : ∃ N, s.size = N := ⟨_, rfl⟩
  have hZ : zerosW N ≤ 63 := by unfold zerosW; omega
  obtain ⟨Z, hZ1⟩ : ∃ Z, zerosW N = Z := ⟨_, rfl⟩
  have hZ2 : (N + 1 + Z) % 64 = 56 := by rw [← hZ1]; unfold zerosW; omega
  have hZ3 : ∀ k, k < Z → ¬ (N + 1 + k) % 64 = 56 := fun k hk => by rw [← hZ1] at hk; unfold zerosW at hk; omega
  have HZ := Lib.hid (And.intro hZ1 (And.intro hZ2 hZ3))
  rw [hZ1] at hZ
  have HN := Lib.hid (And.intro hN trivial)
  rw [hN] at hcv hs HO
  have hB8 : IntKind.i64.wrap (8 * (N : Int)) = (N : Int) * 8 := by rw [IntKind.wrap_i64]; omega
  have ha255 : ∀ n, bits .and .i64 n 255 = n % 256 := bitsand255
  clear hO hb0 hcp hL hLN hZ1 hZ2 hZ3
  go_enter Try.func82, Try.ntmps82
  have HB8 := Lib.hid (And.intro hB8 trivial)
  go_wp2_with (at_builtin; go_loud (refine wpList_append_byte1 (w := w1) rfl (.tmp 8) (.tmp 9) 80 rfl w.heap.size 5 el_byteH info_byteH (.slice (some ⟨w.heap.size, 0, none⟩) N cp) L (by rfl) HO.out 128 128 rfl rfl (by rw [HL.out.2.1, HN.out.1]; omega) HB.out.size ?_); intro v2 w2 hO2 hb2)
  have HO2 := Lib.hid (hO2.to (show L ++ [128] = headW L 0 from rfl))
  have HB2 := Lib.hid (HB.out.trans hb2)
  clear hO2 hb2 hcv HO HB
  go_loopw [3] (fun v wr => ∃ (k g cap : Nat), v = .slice (some ⟨g, 0, none⟩) (N + 1 + k) cap ∧ k ≤ Z ∧ Hid (OwnB wr w.heap.size 5 v (headW L k)) ∧ Hid (Below w.heap.size w wr)) (fun v _ => 1 + (N + 64) - vlen v)
  case atStart =>
    obtain ⟨g, cap, hv⟩ := HO2.out.shape (headW_len L 0)
    refine ⟨0, g, cap, by rw [hv, HL.out.2.1, HN.out.1], by omega, HO2, HB2⟩
  case round =>
    clear HO2 HB2
    obtain ⟨k, g, cap, rfl, hk, HO, HB⟩ := hrel
    by_cases hkz : k < Z
    · have hq : ¬ ((N : Int) + 1 + (k : Int)) % 64 = 56 := by have := HZ.out.2.2 k hkz; omega
      go_wp2_with (at_builtin; go_loud (refine wpList_append_byte1 (w := wr) rfl (.tmp 15) (.tmp 16) 80 rfl w.heap.size 5 el_byteH info_byteH (.slice (some ⟨g, 0, none⟩) (N + 1 + k) cap) (headW L k) (by rfl) HO.out 0 0 rfl rfl (by rw [headW_len, HL.out.2.1, HN.out.1]; omega) HB.out.size ?_); intro v2 w2 hO2 hb2)
      have HO3 := Lib.hid (hO2.to (headW_succ L k))
      obtain ⟨g2, cap2, rfl⟩ := HO3.out.shape (n := N + 1 + (k + 1)) (by rw [headW_len, HL.out.2.1, HN.out.1])
      go_round
      case rel => exact ⟨k + 1, g2, cap2, rfl, by omega, HO3, Lib.hid (HB.out.trans hb2)⟩
      case measure => show 1 + (N + 64) - (N + 1 + (k + 1)) < 1 + (N + 64) - (N + 1 + k); omega
    · obtain rfl : k = Z := by omega
      have hq : ((N : Int) + 1 + (k : Int)) % 64 = 56 := by have := HZ.out.2.1; omega
      have hB8 := HB8.out.1
      go_wp2_with fail
      clear hq
      go_loopw [3, 5] (fun vb vi wr => ∃ (j g cap : Nat), vb = .slice (some ⟨g, 0, none⟩) (N + 1 + k + j) cap ∧ vi = .int .i64 (7 - (j : Int)) ∧ j ≤ 8 ∧ Hid (OwnB wr w.heap.size 5 vb (headW L k ++ (lenW N).take j)) ∧ Hid (Below w.heap.size w wr)) (fun vb _ _ => 1 + (N + 80) - vlen vb)
      case atStart =>
        refine ⟨0, g, cap, rfl, rfl, by omega, Lib.hid ?_, HB⟩
        rw [List.take_zero, List.append_nil]
        exact HO.out
      case round =>
        clear HO HB
        obtain ⟨j, g, cap, rfl, rfl, hj, HO, HB⟩ := hrel
        by_cases hlt : j < 8
        · obtain ⟨bi, hbi⟩ : ∃ bi, (lenW N).getD j 0 = bi := ⟨_, rfl⟩
          have hv := lenW_get N j hs hlt
          have ht := lenW_take N j hlt
          rw [hbi] at hv ht
          have HV := Lib.hid (And.intro hv ht)
          obtain ⟨j2, hj2⟩ : ∃ j2, j + 1 = j2 := ⟨_, rfl⟩
          have HJ := Lib.hid (And.intro hj2 trivial)
          have hOE : headW L k ++ (lenW N).take j ++ [bi] = headW L k ++ (lenW N).take j2 := by rw [← hj2, ht, List.append_assoc]
          have HOE := Lib.hid (And.intro hOE trivial)
          have hLE : (headW L k ++ (lenW N).take j).length + 1 = N + 1 + k + j2 := by rw [List.length_append, headW_len, HL.out.2.1, HN.out.1, List.length_take, lenW_len]; omega
          have HLE := Lib.hid (And.intro hLE trivial)
          clear hv ht hbi hj2 hOE hLE
          have h8 : j = 0 ∨ j = 1 ∨ j = 2 ∨ j = 3 ∨ j = 4 ∨ j = 5 ∨ j = 6 ∨ j = 7 := by omega
          rcases h8 with rfl | rfl | rfl | rfl | rfl | rfl | rfl | rfl
          all_goals
            clear hlt
            go_wp2_with (at_builtin; go_loud (refine wpList_append_byte1 (w := wr) rfl (.tmp 25) (.tmp 32) 80 rfl w.heap.size 5 el_byteH info_byteH _ _ (by rfl) HO.out bi _ (by have h := HV.out.1; simp only [Nat.reduceMul, Nat.reduceSub, Int.reducePow] at h; first | exact h | (rw [Int.ediv_one] at h; exact h)) rfl (by rw [HLE.out.1]; have := HJ.out.1; omega) HB.out.size ?_); intro v3 w3 hO3 hb3)
            have HO3 := Lib.hid (hO3.to HOE.out.1)
            obtain ⟨g3, cap3, rfl⟩ := HO3.out.shape (n := N + 1 + k + j2) (by rw [← HOE.out.1, List.length_append, List.length_singleton, HLE.out.1])
            go_round
            case rel =>
              have hJ := HJ.out.1
              subst hJ
              exact ⟨_, g3, cap3, rfl, rfl, by omega, HO3, Lib.hid (HB.out.trans hb3)⟩
            case measure =>
              have := HJ.out.1
              show 1 + (N + 80) - vlen (Value.slice _ _ _) < 1 + (N + 80) - vlen (Value.slice _ _ _)
              rw [vlen_slice, vlen_slice]
              omega
        · obtain rfl : j = 8 := by omega
          have HR : Hid (OwnB wr w.heap.size 5 (.slice (some ⟨g, 0, none⟩) (N + 1 + k + 8) cap) (L ++ padW N)) := Lib.hid (HO.out.to (by
            rw [List.take_of_length_le (by rw [lenW_len]; omega), padW_eq, HZ.out.1]
            unfold headW
            simp))
          go_wp2_with fail
          go_ret
          have hlen : N + (padW N).length = N + 1 + k + 8 := by rw [padW_eq, HZ.out.1]; simp [lenW_len]; omega
          have hlen2 : (L ++ padW N).length = N + 1 + k + 8 := by rw [List.length_append, HL.out.2.1, HN.out.1, hlen]
          obtain ⟨g', cap', hv, h1, h2, h3, h4, h5⟩ := HR.out.cells
          rw [hlen2] at hv h1
          simp only [Value.slice.injEq, Option.some.injEq, Addr.mk.injEq, true_and, and_true] at hv
          obtain ⟨rfl, rfl⟩ := hv
          rw [HL.out.1, HN.out.1, hlen]
          exact ⟨_, _, rfl, h1, h2, fun _ => ⟨_, _, rfl, fun j u hj => by have := h5 j u hj; rwa [add_mk] at this⟩, fun ad h => by cases h; exact h3, HB.out⟩
end Go.Proofs.Ytnhbkfefpkocaaa
