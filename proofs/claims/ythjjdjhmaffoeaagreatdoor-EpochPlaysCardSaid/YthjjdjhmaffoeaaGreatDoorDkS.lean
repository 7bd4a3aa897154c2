/-
  The reference's filled.
-/
import Derived.Test.YthjjdjhmaffoeaaGreatDoorDkM
import Derived.Test.YthjjdjhmaffoeaaGreatDoorDkRw
import Derived.Test.YthjjdjhmaffoeaaGreatDoorConvB
namespace Go.Proofs.YthjjdjhmaffoeaaGreatDoor
open Go.RowKit Go.Lib

theorem el_byteK : El Tryz.prog 77 5 1 1 := El.mk_ (z := .int .u8 0) Tryz.underlying77 (by kernel_rfl) (by decide) (by rfl)
theorem info_byteK : (Tryz.prog.info? 5).map (fun i => (i.zero, i.size, i.bytes)) = some (some (.int .u8 0), 1, 1) := by kernel_rfl
def lenV : Value → Nat
  | .slice _ n _ => n
  | _ => 0
theorem lenV_slice (p : Option Addr) (n c : Nat) : lenV (.slice p n c) = n := rfl
theorem OwnB.shape {w : World} {base : Nat} {e : TypeId} {v : Value} {l : List UInt8} (h : OwnB w base e v l) {n : Nat} (hn : l.length = n) : ∃ g cap, v = .slice (some ⟨g, 0, none⟩) n cap := by
  obtain ⟨g, cap, _, _, h1, _⟩ := h
  rw [hn] at h1
  exact ⟨g, cap, h1⟩
set_option maxRecDepth 100000 in
set_option maxHeartbeats 4000000 in
theorem filled_any (s : ByteArray) (hs : s.size ≤ 256) (w : World) :
    Calls Tryz.prog 22 #[.string s] w fun e w' => e = .returned (.string (fillS s)) ∧ Below w.heap.size w w' := by
  have hcv := Go.Lib.run_convert_string_bytes (P := Tryz.prog) w 9 77 5 s Tryz.underlying9 Tryz.underlying77 Tryz.underlying5
  have hO := OwnB.conv w 5 s (by unfold maxLen; omega)
  have hb0 := Go.Lib.bytesWorld_below w 5 s
  obtain ⟨cp, hcp⟩ : ∃ cp, grownCap w s.size 0 5 = cp := ⟨_, rfl⟩
  rw [hcp] at hcv hO
  generalize Go.Lib.bytesWorld w 5 s = w1 at *
  have HO := Lib.hid hO
  have HB := Lib.hid hb0
  clear hO hb0 hcp
  go_enter Tryz.func22, Tryz.ntmps22
  go_wp2_with fail
  go_loopw [3] (fun v wr => ∃ (j g cap : Nat), v = .slice (some ⟨g, 0, none⟩) (s.size + j) cap ∧ s.size + j ≤ 256 ∧ Hid (OwnB wr w.heap.size 5 v (s.toList ++ List.replicate j 0)) ∧ Hid (Below w.heap.size w wr)) (fun v _ => 256 - lenV v)
  case atStart =>
    refine ⟨0, w.heap.size, cp, rfl, by omega, Lib.hid ?_, HB⟩
    rw [List.replicate_zero, List.append_nil]
    exact HO.out
  case round =>
    obtain ⟨j, g, cap, rfl, hj, HW, HB2⟩ := hrel
    clear hcv
    by_cases hlt : s.size + j < 256
    · have hl1 : ((s.size : Int) + (j : Int)) < 256 := by omega
      have hsz := HB2.out.size
      have HSZ := Lib.hid hsz
      have hw1 : IntKind.i64.wrap ((s.size : Int) + (j : Int)) = (s.size : Int) + (j : Int) := by rw [IntKind.wrap_i64]; omega
      clear hlt hsz
      go_wp2_with (at_builtin; go_loud (refine wpList_append_byte1 (w := wr) rfl (.tmp 9) (.tmp 10) 77 rfl w.heap.size 5 el_byteK info_byteK (.slice (some ⟨g, 0, none⟩) (s.size + j) cap) (s.toList ++ List.replicate j 0) rfl HW.out 0 0 rfl rfl (by rw [List.length_append, size_toList, List.length_replicate]; omega) HSZ.out ?_); intro v2 w2 hO2 hb2; obtain ⟨g2, cap2, hv2⟩ := hO2.shape (n := s.size + (j + 1)) (by rw [List.append_assoc, List.length_append, size_toList, List.length_append, List.length_replicate]; rfl); subst hv2; have HO2 := Lib.hid hO2; have HB3 := Lib.hid (HB2.out.trans hb2); clear hO2 hb2)
      go_roundw
      case rel =>
        refine ⟨j + 1, g2, cap2, rfl, by omega, Lib.hid ?_, HB3⟩
        have := HO2.out
        rw [List.append_assoc, show List.replicate j (0 : UInt8) ++ [0] = List.replicate (j + 1) 0 from (List.replicate_succ' ..).symm] at this
        exact this
      case measure => rw [lenV_slice, lenV_slice]; omega
    · have hl1 : ¬ ((s.size : Int) + (j : Int)) < 256 := by omega
      have hcb := conv_ownB (P := Tryz.prog) HW.out 77 9 5 Tryz.underlying77 Tryz.underlying5 Tryz.underlying9
      obtain ⟨t, ht⟩ : ∃ t, ofL (s.toList ++ List.replicate j 0) = t := ⟨_, rfl⟩
      rw [ht] at hcb
      have HT := Lib.hid ht
      clear ht
      go_wp2_with fail
      go_ret
      have e9 : fillS s = t := by
        rw [← HT.out]
        unfold fillS
        rw [show 256 - s.size = j by omega]
      exact ⟨by rw [e9]; rfl, HB2.out⟩
end Go.Proofs.YthjjdjhmaffoeaaGreatDoor
