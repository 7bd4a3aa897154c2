/-
  The reference's sha: padded. The reference's sha: its sum.
-/
import Derived.Test.YtnhbkfefpkocaaaSrB
import Derived.Test.YtnhbkfefpkocaaaP11
namespace Go.Proofs.Ytnhbkfefpkocaaa
open Go.RowKit Go.Lib

theorem OwnB.shape {w : World} {base : Nat} {e : TypeId} {v : Value} {l : List UInt8} (h : OwnB w base e v l) {n : Nat} (hn : l.length = n) : ∃ g cap, v = .slice (some ⟨g, 0, none⟩) n cap := by
  obtain ⟨g, cap, _, _, h1, _⟩ := h
  rw [hn] at h1
  exact ⟨g, cap, h1⟩
theorem OwnB.to {w : World} {base : Nat} {e : TypeId} {v : Value} {l l' : List UInt8} (h : OwnB w base e v l) (he : l = l') : OwnB w base e v l' := by rw [← he]; exact h
theorem vlen_slice (p : Option Addr) (n c : Nat) : vlen (.slice p n c) = n := rfl
/-- The bytes ahead of the length. -/
def headW (s : List UInt8) (k : Nat) : List UInt8 := s ++ 128 :: List.replicate k 0
theorem headW_succ (s : List UInt8) (k : Nat) : headW s k ++ [0] = headW s (k + 1) := by
  unfold headW
  rw [List.append_assoc, List.cons_append, show List.replicate k (0 : UInt8) ++ [0] = List.replicate (k + 1) 0 from (List.replicate_succ' ..).symm]
theorem headW_len (s : List UInt8) (k : Nat) : (headW s k).length = s.length + 1 + k := by
  unfold headW
  simp
  omega

set_option maxRecDepth 20000 in
set_option maxHeartbeats 2000000 in
theorem padded_any (s : ByteArray) (hs : s.size ≤ 1000000000) (w : World) :
    Calls Try.prog 82 #[.string s] w fun e w' => RetS w (s.size + (padW s.size).length) (byteVals (s.toList ++ padW s.size)) e w' := by
  have hcv := Go.Lib.run_convert_string_bytes (P := Try.prog) w 9 80 5 s Try.underlying9 Try.underlying80 Try.underlying5
  have hO := OwnB.conv w 5 s (by unfold maxLen; omega)
  have hb0 := Go.Lib.bytesWorld_below w 5 s
  obtain ⟨cp, hcp⟩ : ∃ cp, grownCap w s.size 0 5 = cp := ⟨_, rfl⟩
  rw [hcp] at hcv hO
  generalize Go.Lib.bytesWorld w 5 s = w1 at *
  have HO := Lib.hid hO
  have HB := Lib.hid hb0
  obtain ⟨L, hL⟩ : ∃ L, s.toList = L := ⟨_, rfl⟩
  have hLN : L.length = s.size := by rw [← hL, size_toList]
  have HL := Lib.hid (And.intro hL (And.intro hLN trivial))
  rw [hL] at HO
  obtain ⟨N, hN⟩ : ∃ N, s.size = N := ⟨_, rfl⟩
  have hZ : zerosW N ≤ 63 := by unfold zerosW; omega
  obtain ⟨Z, hZ1⟩ : ∃ Z, zerosW N = Z := ⟨_, rfl⟩
  have hZ2 : (N + 1 + Z) % 64 = 56 := by rw [← hZ1]; unfold zerosW; omega
  have hZ3 : ∀ k, k < Z → ¬ (N + 1 + k) % 64 = 56 := fun k hk => by rw [← hZ1] at hk; unfold zerosW at hk; omega
  have HZ := Lib.hid (And.intro hZ1 (And.intro hZ2 hZ3))
  rw [hZ1] at hZ
  have HN := Lib.hid (And.intro hN trivial)
  rw [hN] at hcv hs HO
  have hB8 : IntKind.i64.wrap (8 * (N : Int)) = (N : Int) * 8 := by rw [IntKind.wrap_i64]; omega
  have ha255 : ∀ n, bits .and .i64 n 255 = n % 256 := bitsand255
  clear hO hb0 hcp hL hLN hZ1 hZ2 hZ3
  go_enter Try.func82, Try.ntmps82
  have HB8 := Lib.hid (And.intro hB8 trivial)
  go_wp2_with (at_builtin; go_loud (refine wpList_append_byte1 (w := w1) rfl (.tmp 8) (.tmp 9) 80 rfl w.heap.size 5 el_byteH info_byteH (.slice (some ⟨w.heap.size, 0, none⟩) N cp) L (by rfl) HO.out 128 128 rfl rfl (by rw [HL.out.2.1, HN.out.1]; omega) HB.out.size ?_); intro v2 w2 hO2 hb2)
  have HO2 := Lib.hid (hO2.to (show L ++ [128] = headW L 0 from rfl))
  have HB2 := Lib.hid (HB.out.trans hb2)
  clear hO2 hb2 hcv HO HB
  go_loopw [3] (fun v wr => ∃ (k g cap : Nat), v = .slice (some ⟨g, 0, none⟩) (N + 1 + k) cap ∧ k ≤ Z ∧ Hid (OwnB wr w.heap.size 5 v (headW L k)) ∧ Hid (Below w.heap.size w wr)) (fun v _ => 1 + (N + 64) - vlen v)
  case atStart =>
    obtain ⟨g, cap, hv⟩ := HO2.out.shape (headW_len L 0)
    refine ⟨0, g, cap, by rw [hv, HL.out.2.1, HN.out.1], by omega, HO2, HB2⟩
  case round =>
    clear HO2 HB2
    obtain ⟨k, g, cap, rfl, hk, HO, HB⟩ := hrel
    by_cases hkz : k < Z
    · have hq : ¬ ((N : Int) + 1 + (k : Int)) % 64 = 56 := by have := HZ.out.2.2 k hkz; omega
      go_wp2_with (at_builtin; go_loud (refine wpList_append_byte1 (w := wr) rfl (.tmp 15) (.tmp 16) 80 rfl w.heap.size 5 el_byteH info_byteH (.slice (some ⟨g, 0, none⟩) (N + 1 + k) cap) (headW L k) (by rfl) HO.out 0 0 rfl rfl (by rw [headW_len, HL.out.2.1, HN.out.1]; omega) HB.out.size ?_); intro v2 w2 hO2 hb2)
      have HO3 := Lib.hid (hO2.to (headW_succ L k))
      obtain ⟨g2, cap2, rfl⟩ := HO3.out.shape (n := N + 1 + (k + 1)) (by rw [headW_len, HL.out.2.1, HN.out.1])
      go_round
      case rel => exact ⟨k + 1, g2, cap2, rfl, by omega, HO3, Lib.hid (HB.out.trans hb2)⟩
      case measure => show 1 + (N + 64) - (N + 1 + (k + 1)) < 1 + (N + 64) - (N + 1 + k); omega
    · obtain rfl : k = Z := by omega
      have hq : ((N : Int) + 1 + (k : Int)) % 64 = 56 := by have := HZ.out.2.1; omega
      have hB8 := HB8.out.1
      go_wp2_with fail
      clear hq
      go_loopw [3, 5] (fun vb vi wr => ∃ (j g cap : Nat), vb = .slice (some ⟨g, 0, none⟩) (N + 1 + k + j) cap ∧ vi = .int .i64 (7 - (j : Int)) ∧ j ≤ 8 ∧ Hid (OwnB wr w.heap.size 5 vb (headW L k ++ (lenW N).take j)) ∧ Hid (Below w.heap.size w wr)) (fun vb _ _ => 1 + (N + 80) - vlen vb)
      case atStart =>
        refine ⟨0, g, cap, rfl, rfl, by omega, Lib.hid ?_, HB⟩
        rw [List.take_zero, List.append_nil]
        exact HO.out
      case round =>
        clear HO HB
        obtain ⟨j, g, cap, rfl, rfl, hj, HO, HB⟩ := hrel
        by_cases hlt : j < 8
        · obtain ⟨bi, hbi⟩ : ∃ bi, (lenW N).getD j 0 = bi := ⟨_, rfl⟩
          have hv := lenW_get N j hs hlt
          have ht := lenW_take N j hlt
          rw [hbi] at hv ht
          have HV := Lib.hid (And.intro hv ht)
          obtain ⟨j2, hj2⟩ : ∃ j2, j + 1 = j2 := ⟨_, rfl⟩
          have HJ := Lib.hid (And.intro hj2 trivial)
          have hOE : headW L k ++ (lenW N).take j ++ [bi] = headW L k ++ (lenW N).take j2 := by rw [← hj2, ht, List.append_assoc]
          have HOE := Lib.hid (And.intro hOE trivial)
          have hLE : (headW L k ++ (lenW N).take j).length + 1 = N + 1 + k + j2 := by rw [List.length_append, headW_len, HL.out.2.1, HN.out.1, List.length_take, lenW_len]; omega
          have HLE := Lib.hid (And.intro hLE trivial)
          clear hv ht hbi hj2 hOE hLE
          have h8 : j = 0 ∨ j = 1 ∨ j = 2 ∨ j = 3 ∨ j = 4 ∨ j = 5 ∨ j = 6 ∨ j = 7 := by omega
          rcases h8 with rfl | rfl | rfl | rfl | rfl | rfl | rfl | rfl
          all_goals
            clear hlt
            go_wp2_with (at_builtin; go_loud (refine wpList_append_byte1 (w := wr) rfl (.tmp 25) (.tmp 32) 80 rfl w.heap.size 5 el_byteH info_byteH _ _ (by rfl) HO.out bi _ (by have h := HV.out.1; simp only [Nat.reduceMul, Nat.reduceSub, Int.reducePow] at h; first | exact h | (rw [Int.ediv_one] at h; exact h)) rfl (by rw [HLE.out.1]; have := HJ.out.1; omega) HB.out.size ?_); intro v3 w3 hO3 hb3)
            have HO3 := Lib.hid (hO3.to HOE.out.1)
            obtain ⟨g3, cap3, rfl⟩ := HO3.out.shape (n := N + 1 + k + j2) (by rw [← HOE.out.1, List.length_append, List.length_singleton, HLE.out.1])
            go_round
            case rel =>
              have hJ := HJ.out.1
              subst hJ
              exact ⟨_, g3, cap3, rfl, rfl, by omega, HO3, Lib.hid (HB.out.trans hb3)⟩
            case measure =>
              have := HJ.out.1
              show 1 + (N + 80) - vlen (Value.slice _ _ _) < 1 + (N + 80) - vlen (Value.slice _ _ _)
              rw [vlen_slice, vlen_slice]
              omega
        · obtain rfl : j = 8 := by omega
          have HR : Hid (OwnB wr w.heap.size 5 (.slice (some ⟨g, 0, none⟩) (N + 1 + k + 8) cap) (L ++ padW N)) := Lib.hid (HO.out.to (by
            rw [List.take_of_length_le (by rw [lenW_len]; omega), padW_eq, HZ.out.1]
            unfold headW
            simp))
          go_wp2_with fail
          go_ret
          have hlen : N + (padW N).length = N + 1 + k + 8 := by rw [padW_eq, HZ.out.1]; simp [lenW_len]; omega
          have hlen2 : (L ++ padW N).length = N + 1 + k + 8 := by rw [List.length_append, HL.out.2.1, HN.out.1, hlen]
          obtain ⟨g', cap', hv, h1, h2, h3, h4, h5⟩ := HR.out.cells
          rw [hlen2] at hv h1
          simp only [Value.slice.injEq, Option.some.injEq, Addr.mk.injEq, true_and, and_true] at hv
          obtain ⟨rfl, rfl⟩ := hv
          rw [HL.out.1, HN.out.1, hlen]
          exact ⟨_, _, rfl, h1, h2, fun _ => ⟨_, _, rfl, fun j u hj => by have := h5 j u hj; rwa [add_mk] at this⟩, fun ad h => by cases h; exact h3, HB.out⟩
end Go.Proofs.Ytnhbkfefpkocaaa
namespace Go.Proofs.Ytnhbkfefpkocaaa
open Go.RowKit Go.Lib

theorem natVals_arr (l : List Nat) (i : Nat) (h : i < l.length) : (natVals l).toArray[i]? = some (.int .i64 (l.getD i 0 : Nat)) := by
  rw [List.getElem?_toArray]
  exact natVals_get l i h
theorem natVals_set (l : List Nat) (i x : Nat) : (natVals l).toArray.setIfInBounds i (.int .i64 (x : Nat)) = (natVals (l.set i x)).toArray := by
  unfold natVals
  simp [List.map_set]
theorem Rd.drewN_ {w : World} {A : Option Addr} {xs : List Value} (h : Rd w A xs) (q : Nat) : Rd (w.drewN q) A xs := h.keep fun _ _ _ h => h
theorem pad_mod (n : Nat) : (n + (padW n).length) % 64 = 0 := by
  rw [padW_eq]
  simp [lenW_len, zerosW]
  omega
theorem kTab_lt : ∀ x ∈ kTab, x < 4294967296 := by decide
/-- What memory holds at the head of the blocks' loop. -/
def RsAt (w wr : World) (gh gk : Nat) (A : Option Addr) (all : List UInt8) (H : List Nat) : Prop :=
  Bk wr gh 3 (natVals H).toArray ∧ Bk wr gk 3 (natVals kTab).toArray ∧ Rd wr A (byteVals all) ∧ Below w.heap.size w wr ∧ w.heap.size ≤ gh ∧ gh ≠ gk ∧ Off gh A (byteVals all)
theorem RsAt.below {w wr w' : World} {gh gk : Nat} {A : Option Addr} {all : List UInt8} {H : List Nat} (h : RsAt w wr gh gk A all H) (hb : Below wr.heap.size wr w') : RsAt w w' gh gk A all H :=
  ⟨h.1.below' hb, h.2.1.below' hb, h.2.2.1.below hb, h.2.2.2.1.trans (hb.mono h.2.2.2.1.size), h.2.2.2.2⟩
theorem RsAt.set_ {w wr : World} {gh gk : Nat} {A : Option Addr} {all : List UInt8} {H : List Nat} (h : RsAt w wr gh gk A all H) (i x : Nat) : RsAt w (wr.setCell ⟨gh, i, none⟩ (.int .i64 (x : Nat))) gh gk A all (H.set i x) := by
  refine ⟨?_, h.2.1.far (p := ⟨gh, i, none⟩) (fun e => h.2.2.2.2.2.1 e.symm) _, ?_, h.2.2.2.1.setCell (p := ⟨gh, i, none⟩) h.2.2.2.2.1 _, h.2.2.2.2⟩
  · have := h.1.set_ i (.int .i64 (x : Nat))
    rw [natVals_set] at this
    exact this
  · exact h.2.2.1.only (only_set wr gh i _) h.2.2.2.2.2.2

/-- A table in memory of its own. -/
def NewTab (w w' : World) (l : List Nat) (g : Nat) : Prop := w.heap.size ≤ g ∧ Bk w' g 3 (natVals l).toArray ∧ Below w.heap.size w w'
theorem rstart_tab (w : World) : Calls Try.prog 83 #[] w fun e w' => ∃ g, e = .returned (.slice (some ⟨g, 0, none⟩) 8 8) ∧ NewTab w w' startW g :=
  (rstart_any w).mono fun e w' ⟨he, hw⟩ => ⟨_, he, Nat.le_refl _, by rw [hw]; exact Bk.new w _ _, by rw [hw]; exact (Below.refl _ w).alloc (Nat.le_refl _) _⟩
theorem rrounds_tab (w : World) : Calls Try.prog 84 #[] w fun e w' => ∃ g, e = .returned (.slice (some ⟨g, 0, none⟩) 64 64) ∧ NewTab w w' kTab g :=
  (rrounds_any w).mono fun e w' ⟨he, hw⟩ => ⟨_, he, Nat.le_refl _, by rw [hw]; exact Bk.new w _ _, by rw [hw]; exact (Below.refl _ w).alloc (Nat.le_refl _) _⟩
theorem rsAt_mk {w w1 w2 w3 : World} {gh gk : Nat} {A : Option Addr} {all : List UInt8} (hr : Rd w1 A (byteVals all)) (hb : Below w.heap.size w w1) (h2 : NewTab w1 w2 startW gh) (h3 : NewTab w2 w3 kTab gk) : RsAt w w3 gh gk A all startW := by
  obtain ⟨a1, a2, a3⟩ := h2
  obtain ⟨b1, b2, b3⟩ := h3
  have := a2.lt
  exact ⟨a2.below' b3, b2, (hr.below a3).below b3, (hb.trans (a3.mono hb.size)).trans (b3.mono (Nat.le_trans hb.size a3.size)), Nat.le_trans hb.size a1, by omega, Off.old hr a1⟩

set_option maxRecDepth 20000 in
set_option maxHeartbeats 2000000 in
theorem rsum_any (s : ByteArray) (hs : s.size ≤ 1000000000) (w : World) :
    Calls Try.prog 60 #[.string s] w fun e w' => e = .returned (.string (ofL (shaW s.toList))) ∧ Below w.heap.size w w' := by
  have mixed : Try.prog.follows Departure.mixedOrders = true := by kernel_rfl
  obtain ⟨all, hall⟩ : ∃ all, s.toList ++ padW s.size = all := ⟨_, rfl⟩
  obtain ⟨n, hn⟩ : ∃ n, s.size + (padW s.size).length = n := ⟨_, rfl⟩
  have hn64 := pad_mod s.size
  have hnb : s.size + (padW s.size).length ≤ 1000000200 := by rw [padW_eq]; simp [lenW_len, zerosW]; omega
  have HP := Lib.hid (padded_any s hs w)
  rw [hall, hn] at HP
  rw [hn] at hn64 hnb
  have hlen : all.length = n := by rw [← hall, List.length_append, size_toList, hn]
  have HAL := Lib.hid (And.intro hall (And.intro hn (And.intro hlen hn64)))
  clear hall hn hlen hn64
  go_enter Try.func60, Try.ntmps60
  go_wp2_with fail
  refine HP.out.mono ?_
  rintro e w1 ⟨A, c, rfl, hnc, hcm, hr1, hA1, hb1⟩
  clear HP
  have H1 := Lib.hid (And.intro hr1 (And.intro hA1 hb1))
  clear hr1 hA1 hb1
  go_wp2_with fail
  refine (rstart_tab _).mono ?_
  rintro e w2 ⟨gh, rfl, h2⟩
  have H2 := Lib.hid h2
  clear h2
  go_wp2_with fail
  refine (rrounds_tab _).mono ?_
  rintro e w3 ⟨gk, rfl, h3⟩
  have H3 : Hid (RsAt w w3 gh gk A all startW) := Lib.hid (rsAt_mk H1.out.1 H1.out.2.2 H2.out h3)
  clear h3 H1 H2
  go_wp2_with fail
  go_loopw [6] (fun vat wr => ∃ (j : Nat) (H : List Nat), vat = .int .i64 ((64 * j : Nat) : Int) ∧ 64 * j ≤ n ∧ Hid (Wd8 H) ∧ Hid (RsAt w wr gh gk A all H) ∧ Hid (blocksW (n / 64) startW all = blocksW (n / 64 - j) H (all.drop (64 * j)) ∧ True)) (fun vat _ => n - iOf vat)
  case atStart => exact ⟨0, startW, rfl, by omega, Lib.hid start_ok, H3, Lib.hid ⟨by simp, trivial⟩⟩
  case round =>
    clear H3
    obtain ⟨j, H, rfl, hj, HW, HS, HE⟩ := hrel
    by_cases hlt : 64 * j < n
    · obtain ⟨m, hm⟩ : ∃ m, 64 * j = m := ⟨_, rfl⟩
      have hmn : m + 64 ≤ n := by have := HAL.out.2.2.2; omega
      have hmc : (m : Int) + 64 ≤ (c : Int) := by omega
      have hm0 : (m : Int) < (n : Int) := by omega
      obtain ⟨ba, oa, rfl, hra⟩ := HS.out.2.2.1 (by intro e; have := byteVals_length all; rw [e, HAL.out.2.2.1] at this; simp at this; omega)
      have HRA := Lib.hid (Rd.dropH hra m)
      have HJ := Lib.hid (And.intro hm (And.intro hj hlt))
      rw [hm] at HE ⊢
      clear hm hra hj hlt
      have hblk : ((all.drop m).take 64).length = 64 := by rw [List.length_take, List.length_drop, HAL.out.2.2.1]; omega
      have hrb : Rd wr (some ⟨ba, oa + m, none⟩) (byteVals ((all.drop m).take 64)) := by have := HRA.out.take 64; unfold byteVals at this ⊢; rw [← List.map_take] at this; exact this
      obtain ⟨blk, hb⟩ : ∃ blk, (all.drop m).take 64 = blk := ⟨_, rfl⟩
      rw [hb] at hblk hrb
      have HBK := Lib.hid (And.intro hb (And.intro hblk hrb))
      clear hb hblk hrb HRA
      go_wp2_with fail
      refine (sched_any blk (some ⟨ba, oa + m, none⟩) (c - m) HBK.out.2.1 wr HBK.out.2.2).mono ?_
      rintro e w4 ⟨A3, c3, rfl, hnc3, hcm3, hr3, hA3, hb4⟩
      have HS4 : Hid (RsAt w w4 gh gk (some ⟨ba, oa, none⟩) all H) := Lib.hid (HS.out.below hb4)
      have hWl := sched_ok (W := first16 blk) (first16_lt _) (by have := first16_len 16 blk (by rw [HBK.out.2.1]; omega); rw [List.take_of_length_le (by rw [HBK.out.2.1]; omega)] at this; exact this) 48 (by omega)
      obtain ⟨WW, hWW⟩ : ∃ WW, schedW 48 (first16 blk) = WW := ⟨_, rfl⟩
      rw [hWW] at hWl hr3
      obtain ⟨gw, ow, rfl, hrw⟩ := hr3 (by intro e; have := natVals_length WW; rw [e, hWl.2] at this; simp at this)
      have HRW : Hid (∀ t, t < 64 → w4.cell? ⟨gw, ow + t, none⟩ = some (.int .i64 (WW.getD t 0 : Nat))) := Lib.hid fun t ht => hrw t _ (natVals_get WW t (by rw [hWl.2]; exact ht))
      have HWL := Lib.hid hWl
      have HMX := Lib.hid (And.intro (show mixW H blk = List.zipWith (fun x y => (x + y) % 4294967296) H (rndsW H kTab WW) by unfold mixW; rw [hWW]) trivial)
      clear hr3 hrw hWl hWW hA3 hb4 hcm3 hnc3 HS
      obtain ⟨h0, h1, h2, h3, h4, h5, h6, h7, rfl⟩ := eight HW.out.1
      have c0 := (HS4.out.1.cell 0).trans (natVals_arr [h0, h1, h2, h3, h4, h5, h6, h7] 0 (by simp))
      have c1 := (HS4.out.1.cell 1).trans (natVals_arr [h0, h1, h2, h3, h4, h5, h6, h7] 1 (by simp))
      have c2 := (HS4.out.1.cell 2).trans (natVals_arr [h0, h1, h2, h3, h4, h5, h6, h7] 2 (by simp))
      have c3 := (HS4.out.1.cell 3).trans (natVals_arr [h0, h1, h2, h3, h4, h5, h6, h7] 3 (by simp))
      have c4 := (HS4.out.1.cell 4).trans (natVals_arr [h0, h1, h2, h3, h4, h5, h6, h7] 4 (by simp))
      have c5 := (HS4.out.1.cell 5).trans (natVals_arr [h0, h1, h2, h3, h4, h5, h6, h7] 5 (by simp))
      have c6 := (HS4.out.1.cell 6).trans (natVals_arr [h0, h1, h2, h3, h4, h5, h6, h7] 6 (by simp))
      have c7 := (HS4.out.1.cell 7).trans (natVals_arr [h0, h1, h2, h3, h4, h5, h6, h7] 7 (by simp))
      simp only [List.getD_cons_zero, List.getD_cons_succ] at c0 c1 c2 c3 c4 c5 c6 c7
      go_wp2_with fail
      go_quiet (fail)
      go_wp2_with fail
      have HS5 : Hid (RsAt w (w4.drewN nq) gh gk (some ⟨ba, oa, none⟩) all [h0, h1, h2, h3, h4, h5, h6, h7]) := Lib.hid (HS4.out.below (below_dnS (Below.refl _ _) nq))
      have HRW5 : Hid (∀ t, t < 64 → (w4.drewN nq).cell? ⟨gw, ow + t, none⟩ = some (.int .i64 (WW.getD t 0 : Nat))) := Lib.hid HRW.out
      clear c0 c1 c2 c3 c4 c5 c6 c7 HS4 HRW
      generalize w4.drewN nq = w5 at *
      go_loopw [8, 9, 10, 11, 12, 13, 14, 15, 16] (fun v8 v9 v10 v11 v12 v13 v14 v15 v16 wr => ∃ b0 b1 b2 b3 b4 b5 b6 b7 t : Nat, v8 = .int .i64 (b0 : Nat) ∧ v9 = .int .i64 (b1 : Nat) ∧ v10 = .int .i64 (b2 : Nat) ∧ v11 = .int .i64 (b3 : Nat) ∧ v12 = .int .i64 (b4 : Nat) ∧ v13 = .int .i64 (b5 : Nat) ∧ v14 = .int .i64 (b6 : Nat) ∧ v15 = .int .i64 (b7 : Nat) ∧ v16 = .int .i64 (t : Nat) ∧ t ≤ 64 ∧ Hid ([b0, b1, b2, b3, b4, b5, b6, b7] = rndsW [h0, h1, h2, h3, h4, h5, h6, h7] (kTab.take t) (WW.take t) ∧ True) ∧ Hid (∃ q, wr = w5.drewN q)) (fun _ _ _ _ _ _ _ _ vt _ => 64 - iOf vt)
      case atStart => exact ⟨h0, h1, h2, h3, h4, h5, h6, h7, 0, rfl, rfl, rfl, rfl, rfl, rfl, rfl, rfl, rfl, by omega, Lib.hid ⟨by simp [rndsW, kTab], trivial⟩, Lib.hid ⟨0, rfl⟩⟩
      case round =>
        obtain ⟨b0, b1, b2, b3, b4, b5, b6, b7, t, rfl, rfl, rfl, rfl, rfl, rfl, rfl, rfl, rfl, ht, HV, HQ⟩ := hrel
        by_cases htl : t < 64
        · have hl1 : (t : Int) < 64 := by omega
          have hW8 : Wd8 [b0, b1, b2, b3, b4, b5, b6, b7] := by rw [HV.out.1]; exact rnds_ok _ _ _ HW.out
          obtain ⟨wi, hwi⟩ : ∃ x, WW.getD t 0 = x := ⟨_, rfl⟩
          obtain ⟨ki, hki⟩ : ∃ x, kTab.getD t 0 = x := ⟨_, rfl⟩
          have ywi : wi < 4294967296 := by rw [← hwi]; exact sched_get HWL.out.1 (by rw [HWL.out.2]; exact htl)
          have yki : ki < 4294967296 := by rw [← hki]; exact sched_get kTab_lt htl
          have cw := HRW5.out t htl
          have ck := (HS5.out.2.1.cell t).trans (natVals_arr kTab t htl)
          rw [hwi] at cw
          rw [hki] at ck
          obtain ⟨q, hq⟩ := HQ.out
          have cw' : wr.cell? ⟨gw, ow + t, none⟩ = some (.int .i64 (wi : Nat)) := by rw [hq]; exact cw
          have ck' : wr.cell? ⟨gk, t, none⟩ = some (.int .i64 (ki : Nat)) := by rw [hq]; exact ck
          clear cw ck hq
          have y0 : b0 < 4294967296 := hW8.2 _ (by simp)
          have y1 : b1 < 4294967296 := hW8.2 _ (by simp)
          have y2 : b2 < 4294967296 := hW8.2 _ (by simp)
          have y3 : b3 < 4294967296 := hW8.2 _ (by simp)
          have y4 : b4 < 4294967296 := hW8.2 _ (by simp)
          have y5 : b5 < 4294967296 := hW8.2 _ (by simp)
          have y6 : b6 < 4294967296 := hW8.2 _ (by simp)
          have y7 : b7 < 4294967296 := hW8.2 _ (by simp)
          obtain ⟨r1, hr1⟩ : ∃ r, rot b4 6 = r := ⟨_, rfl⟩
          obtain ⟨r2, hr2⟩ : ∃ r, rot b4 11 = r := ⟨_, rfl⟩
          obtain ⟨r3, hr3⟩ : ∃ r, rot b4 25 = r := ⟨_, rfl⟩
          obtain ⟨r4, hr4⟩ : ∃ r, rot b0 2 = r := ⟨_, rfl⟩
          obtain ⟨r5, hr5⟩ : ∃ r, rot b0 13 = r := ⟨_, rfl⟩
          obtain ⟨r6, hr6⟩ : ∃ r, rot b0 22 = r := ⟨_, rfl⟩
          have T1 : Hid (∀ w', Calls Try.prog 86 #[.int .i64 b4, .int .i64 6] w' fun e w'' => e = .returned (.int .i64 (r1 : Nat)) ∧ ∃ m, w'' = w'.drewN m) := Lib.hid fun w' => rotr_g hr1 y4 (by omega) w'
          have T2 : Hid (∀ w', Calls Try.prog 86 #[.int .i64 b4, .int .i64 11] w' fun e w'' => e = .returned (.int .i64 (r2 : Nat)) ∧ ∃ m, w'' = w'.drewN m) := Lib.hid fun w' => rotr_g hr2 y4 (by omega) w'
          have T3 : Hid (∀ w', Calls Try.prog 86 #[.int .i64 b4, .int .i64 25] w' fun e w'' => e = .returned (.int .i64 (r3 : Nat)) ∧ ∃ m, w'' = w'.drewN m) := Lib.hid fun w' => rotr_g hr3 y4 (by omega) w'
          have T4 : Hid (∀ w', Calls Try.prog 86 #[.int .i64 b0, .int .i64 2] w' fun e w'' => e = .returned (.int .i64 (r4 : Nat)) ∧ ∃ m, w'' = w'.drewN m) := Lib.hid fun w' => rotr_g hr4 y0 (by omega) w'
          have T5 : Hid (∀ w', Calls Try.prog 86 #[.int .i64 b0, .int .i64 13] w' fun e w'' => e = .returned (.int .i64 (r5 : Nat)) ∧ ∃ m, w'' = w'.drewN m) := Lib.hid fun w' => rotr_g hr5 y0 (by omega) w'
          have T6 : Hid (∀ w', Calls Try.prog 86 #[.int .i64 b0, .int .i64 22] w' fun e w'' => e = .returned (.int .i64 (r6 : Nat)) ∧ ∃ m, w'' = w'.drewN m) := Lib.hid fun w' => rotr_g hr6 y0 (by omega) w'
          have HO := Lib.hid (one63 b4 b5 b6 b7 ki wi r1 r2 r3 y4 y5 y6 y7 yki ywi hr1 hr2 hr3)
          have HT := Lib.hid (two63 b0 b1 b2 r4 r5 r6 y0 y1 y2 hr4 hr5 hr6)
          have yone := oneW_lt b4 b5 b6 b7 ki wi
          have ytwo := twoW_lt b0 b1 b2
          obtain ⟨one, hone⟩ : ∃ o, oneW b4 b5 b6 b7 ki wi = o := ⟨_, rfl⟩
          obtain ⟨two, htwo⟩ : ∃ o, twoW b0 b1 b2 = o := ⟨_, rfl⟩
          have HN := Lib.hid (And.intro (show rndsW [h0, h1, h2, h3, h4, h5, h6, h7] (kTab.take (t + 1)) (WW.take (t + 1)) = [(one + two) % 4294967296, b0, b1, b2, (b3 + one) % 4294967296, b4, b5, b6] by
            rw [rnds_step t [h0, h1, h2, h3, h4, h5, h6, h7] kTab WW htl (by rw [HWL.out.2]; exact htl), ← HV.out.1, hki, hwi, ← hone, ← htwo]
            rfl) trivial)
          rw [hone] at HO yone
          rw [htwo] at HT ytwo
          obtain ⟨de, hde⟩ : ∃ x, b3 + one = x := ⟨_, rfl⟩
          obtain ⟨de2, hde2⟩ : ∃ x, de % 4294967296 = x := ⟨_, rfl⟩
          obtain ⟨ot, hot⟩ : ∃ x, one + two = x := ⟨_, rfl⟩
          obtain ⟨ot2, hot2⟩ : ∃ x, ot % 4294967296 = x := ⟨_, rfl⟩
          have z1 : IntKind.i64.wrap ((b3 : Int) + one) = (de : Int) := by rw [IntKind.wrap_i64]; omega
          have z2 : bits .and .i64 (de : Int) 4294967295 = (de2 : Int) := by rw [low32]; omega
          have z3 : IntKind.i64.wrap ((one : Int) + two) = (ot : Int) := by rw [IntKind.wrap_i64]; omega
          have z4 : bits .and .i64 (ot : Int) 4294967295 = (ot2 : Int) := by rw [low32]; omega
          rw [hde, hot, hde2, hot2] at HN
          clear hr1 hr2 hr3 hr4 hr5 hr6 ywi yki y0 y1 y2 y3 y4 y5 y6 y7 hki hwi hW8 hone htwo yone ytwo hde hde2 hot hot2 HV
          obtain ⟨x1, x2, x3, x4, x5, x6, p1, p2, p3, p4, o1, o2, o3, o4, o5, o6, o7, o8, o9, o10, o11⟩ := HO.out
          clear HO
          go_wp2_with fail
          go_quiet (first | (go_at_call 86; with_reducible refine Calls.quiet_of (T1.out _)) | (go_at_call 86; with_reducible refine Calls.quiet_of (T2.out _)) | (go_at_call 86; with_reducible refine Calls.quiet_of (T3.out _)))
          clear o1 o2 o3 o4 o5 o6 o7 o8 o9 o10 o11 T1 T2 T3 cw' ck'
          obtain ⟨x1', x2', x3', x4', x5', x6', x7', p1', o1, o2, o3, o4, o5, o6, o7, o8, o9⟩ := HT.out
          clear HT
          go_wp2_with fail
          refine (T4.out _).mono ?_
          rintro e w' ⟨rfl, m4, rfl⟩
          go_wp2_with fail
          refine (T5.out _).mono ?_
          rintro e w' ⟨rfl, m5, rfl⟩
          go_wp2_with fail
          refine (T6.out _).mono ?_
          rintro e w' ⟨rfl, m6, rfl⟩
          go_wp2_with fail
          have HQ2 : Hid (∃ q, wr.drewN (nq + m4 + m5 + m6) = w5.drewN q) := Lib.hid (by
            obtain ⟨q, hq⟩ := HQ.out
            exact ⟨q + (nq + m4 + m5 + m6), by rw [hq, World.drewN_drewN]⟩)
          clear o1 o2 o3 o4 o5 o6 o7 o8 o9 z1 z2 z3 z4 T4 T5 T6 HQ
          go_round
          case rel => exact ⟨ot2, b0, b1, b2, de2, b4, b5, b6, t + 1, rfl, rfl, rfl, rfl, rfl, rfl, rfl, rfl, by first | rfl | go_num, by omega, Lib.hid ⟨HN.out.1.symm, trivial⟩, HQ2⟩
          case measure => simp [iOf]; omega
        · obtain rfl : t = 64 := by omega
          have hq := HQ.out
          have HS6 : Hid (RsAt w wr gh gk (some ⟨ba, oa, none⟩) all [h0, h1, h2, h3, h4, h5, h6, h7]) := Lib.hid (by obtain ⟨q, hq⟩ := HQ.out; rw [hq]; exact HS5.out.below (below_dnS (Below.refl _ _) q))
          have hVE : [b0, b1, b2, b3, b4, b5, b6, b7] = rndsW [h0, h1, h2, h3, h4, h5, h6, h7] kTab WW := by
            rw [HV.out.1, List.take_of_length_le (by decide), List.take_of_length_le (by rw [HWL.out.2]; omega)]
          have HVE := Lib.hid (And.intro hVE trivial)
          have hV8 : Wd8 [b0, b1, b2, b3, b4, b5, b6, b7] := by rw [hVE]; exact rnds_ok _ _ _ HW.out
          have HV8 := Lib.hid hV8
          clear HS5 HRW5 HQ hq hVE hV8 HV
          have hgl := HS6.out.1.lt
          have HS7 : Hid (RsAt w (wr.alloc (.cells #[.int .i64 (b0 : Nat), .int .i64 (b1 : Nat), .int .i64 (b2 : Nat), .int .i64 (b3 : Nat), .int .i64 (b4 : Nat), .int .i64 (b5 : Nat), .int .i64 (b6 : Nat), .int .i64 (b7 : Nat)] 3)) gh gk (some ⟨ba, oa, none⟩) all [h0, h1, h2, h3, h4, h5, h6, h7] ∧ Bk (wr.alloc (.cells #[.int .i64 (b0 : Nat), .int .i64 (b1 : Nat), .int .i64 (b2 : Nat), .int .i64 (b3 : Nat), .int .i64 (b4 : Nat), .int .i64 (b5 : Nat), .int .i64 (b6 : Nat), .int .i64 (b7 : Nat)] 3)) wr.heap.size 3 (natVals [b0, b1, b2, b3, b4, b5, b6, b7]).toArray ∧ gh ≠ wr.heap.size) := Lib.hid ⟨HS6.out.below ((Below.refl _ wr).alloc (Nat.le_refl _) _), Bk.new wr _ _, by omega⟩
          clear hgl HS6
          go_wp2_with fail
          obtain ⟨H, hH⟩ : ∃ H, [h0, h1, h2, h3, h4, h5, h6, h7] = H := ⟨_, rfl⟩
          obtain ⟨V, hV⟩ : ∃ V, [b0, b1, b2, b3, b4, b5, b6, b7] = V := ⟨_, rfl⟩
          rw [hV] at HV8 HVE HS7
          rw [hH] at HW HE HMX HVE HS7
          have hWH := HW.out
          have HHV := Lib.hid (And.intro hH (And.intro hV trivial))
          generalize wr.alloc (.cells #[.int .i64 (b0 : Nat), .int .i64 (b1 : Nat), .int .i64 (b2 : Nat), .int .i64 (b3 : Nat), .int .i64 (b4 : Nat), .int .i64 (b5 : Nat), .int .i64 (b6 : Nat), .int .i64 (b7 : Nat)] 3) = wa at *
          obtain ⟨gv, hgv⟩ : ∃ gv, wr.heap.size = gv := ⟨_, rfl⟩
          rw [hgv] at HS7 ⊢
          clear hH hV hgv hWH
          go_loopw [20] (fun vi wr => ∃ i : Nat, vi = .int .i64 (i : Nat) ∧ i ≤ 8 ∧ Hid (RsAt w wr gh gk (some ⟨ba, oa, none⟩) all (addT H V i)) ∧ Hid (Bk wr gv 3 (natVals V).toArray)) (fun vi _ => 8 - iOf vi)
          case atStart => exact ⟨0, rfl, by omega, Lib.hid (by rw [addT_zero]; exact HS7.out.1), Lib.hid HS7.out.2.1⟩
          case round =>
            obtain ⟨i, rfl, hi, HS, HB⟩ := hrel
            by_cases hil : i < 8
            · have hl1 : (i : Int) < 8 := by omega
              have hLa := addT_len H V i 8 HW.out.1 HV8.out.1
              have hg8 := addT_get H V i (by rw [HW.out.1]; exact hil) (by rw [HV8.out.1]; exact hil)
              have cH := (HS.out.1.cell i).trans (natVals_arr (addT H V i) i (by rw [hLa]; exact hil))
              have fH := HS.out.1.frozen i
              have cV := (HB.out.cell i).trans (natVals_arr V i (by rw [HV8.out.1]; exact hil))
              rw [hg8.1] at cH
              have hHi := sched_get HW.out.2 (i := i) (by rw [HW.out.1]; exact hil)
              have hVi := sched_get HV8.out.2 (i := i) (by rw [HV8.out.1]; exact hil)
              have hset := hg8.2
              generalize H.getD i 0 = hi' at *
              generalize V.getD i 0 = vi' at *
              obtain ⟨sm, hsm⟩ : ∃ x, hi' + vi' = x := ⟨_, rfl⟩
              obtain ⟨sm2, hsm2⟩ : ∃ x, sm % 4294967296 = x := ⟨_, rfl⟩
              have z1 : IntKind.i64.wrap ((hi' : Int) + vi') = (sm : Int) := by rw [IntKind.wrap_i64]; omega
              have z2 : bits .and .i64 (sm : Int) 4294967295 = (sm2 : Int) := by rw [low32]; omega
              rw [hsm, hsm2] at hset
              have HSET := Lib.hid (And.intro hset trivial)
              have HNE := Lib.hid HS7.out.2.2
              clear hLa hg8 hset hHi hVi hsm hsm2
              go_wp2_with fail
              go_big_region_o
              all_goals go_wp2_with fail
              have hS9 := HS.out.set_ i sm2
              rw [HSET.out.1] at hS9
              have hB9 : Bk (wr.setCell ⟨gh, i, none⟩ (.int .i64 (sm2 : Nat))) gv 3 (natVals V).toArray := HB.out.far (p := ⟨gh, i, none⟩) (fun e => HNE.out e.symm) _
              go_round
              case rel => exact ⟨i + 1, by first | rfl | go_num, by omega, Lib.hid (hS9.below ⟨rfl, rfl, rfl, Nat.le_refl _, fun _ _ => rfl⟩), Lib.hid hB9⟩
              case measure => simp [iOf]; omega
            · obtain rfl : i = 8 := by omega
              have hadd := addT_all H V 8 HW.out.1 HV8.out.1
              have hmixE : addT H V 8 = mixW H blk := by rw [hadd, HMX.out.1, HVE.out.1]
              have HS8 : Hid (RsAt w wr gh gk (some ⟨ba, oa, none⟩) all (mixW H blk)) := Lib.hid (by rw [← hmixE]; exact HS.out)
              have HE8 : Hid (blocksW (n / 64) startW all = blocksW (n / 64 - (j + 1)) (mixW H blk) (all.drop (64 * (j + 1))) ∧ True) := Lib.hid ⟨by
                have := HAL.out.2.2.2
                have := HJ.out.1
                rw [HE.out.1, show n / 64 - j = (n / 64 - (j + 1)) + 1 by omega]
                simp only [blocksW]
                rw [HBK.out.1, List.drop_drop, show m + 64 = 64 * (j + 1) by omega], trivial⟩
              have HW8 : Hid (Wd8 (mixW H blk)) := Lib.hid (mix_ok HW.out blk)
              have hmj : (m : Int) + 64 = ((64 * (j + 1) : Nat) : Int) := by have := HJ.out.1; omega
              have HMJ := Lib.hid (And.intro hmj (And.intro (show 64 * (j + 1) ≤ n by have := HJ.out.1; omega) (show n - 64 * (j + 1) < n - m by have := HJ.out.1; omega)))
              clear hadd hmixE hmj HS HB HS7
              go_wp2_with fail
              go_round
              case rel => exact ⟨j + 1, mixW H blk, by rw [← HMJ.out.1], HMJ.out.2.1, HW8, HS8, HE8⟩
              case measure =>
                have := HMJ.out
                simp only [iOf]
                omega
    · have hHE : blocksW (n / 64) startW all = H := by
        have := HAL.out.2.2.2
        rw [HE.out.1, show n / 64 - j = 0 by omega]
        rfl
      have HHE := Lib.hid (And.intro hHE trivial)
      obtain ⟨m, hm⟩ : ∃ m, 64 * j = m := ⟨_, rfl⟩
      have hmn : ¬ ((m : Int) < (n : Int)) := by omega
      rw [hm]
      clear hHE hm HE hlt hj
      go_wp2_with fail
      obtain ⟨wb, hwb⟩ : ∃ wb, wr = wb := ⟨_, rfl⟩
      rw [hwb] at HS ⊢
      have hbs := HS.out.2.2.2.1.size
      clear hwb hmn
      go_loopw [21, 22] (fun vo vi wr => ∃ i : Nat, vi = .int .i64 (i : Nat) ∧ i ≤ 8 ∧ Hid (wr.ownsRow wb.heap.size 5 1 vo (4 * i) (byteVals ((H.take i).flatMap bytes4))) ∧ Hid (Below wb.heap.size wb wr)) (fun _ vi _ => 8 - iOf vi)
      case atStart => exact ⟨0, rfl, by omega, Lib.hid ⟨rfl, Or.inl ⟨rfl, rfl⟩⟩, Lib.hid (Below.refl _ _)⟩
      case round =>
        obtain ⟨i, rfl, hi, HO, HBL⟩ := hrel
        by_cases hil : i < 8
        · have hl1 : (i : Int) < 8 := by omega
          have hxl := sched_get HW.out.2 (i := i) (by rw [HW.out.1]; exact hil)
          have hfs := flat_step H i (by rw [HW.out.1]; exact hil)
          have hca := natVals_arr H i (by rw [HW.out.1]; exact hil)
          obtain ⟨x, hx⟩ : ∃ x, H.getD i 0 = x := ⟨_, rfl⟩
          rw [hx] at hxl hfs hca
          have HFS := Lib.hid (And.intro hfs (And.intro hca (And.intro hxl (Nat.lt_of_lt_of_le hil (Nat.le_refl 8)))))
          clear hfs hca hx hxl hil
          go_wp2_with fail
          go_loopw [21, 23] (fun vo vk wr => ∃ k : Nat, vk = .int .i64 (3 - (k : Int)) ∧ k ≤ 4 ∧ Hid (wr.ownsRow wb.heap.size 5 1 vo (4 * i + k) (byteVals ((H.take i).flatMap bytes4 ++ (bytes4 x).take k))) ∧ Hid (Below wb.heap.size wb wr)) (fun _ vk _ => (4 + (match vk with | .int _ n => n | _ => 0)).toNat)
          case atStart => exact ⟨0, rfl, by omega, Lib.hid (by rw [List.take_zero, List.append_nil]; exact HO.out), HBL⟩
          case round =>
            clear HO HBL
            obtain ⟨k, rfl, hk, HO, HBL⟩ := hrel
            have cx : wr.cell? ⟨gh, i, none⟩ = some (.int .i64 (x : Nat)) := ((HS.out.1.below' HBL.out).cell i).trans HFS.out.2.1
            by_cases hkl : k < 4
            · have h4 : k = 0 ∨ k = 1 ∨ k = 2 ∨ k = 3 := by omega
              have ha255 : ∀ n, bits .and .i64 n 255 = n % 256 := bitsand255
              rcases h4 with rfl | rfl | rfl | rfl
              · clear hkl hk
                go_wp2_with (at_builtin; go_loud (refine wpList_append_new _ rfl (.tmp 167) (.tmp 177) 80 rfl wb.heap.size 5 1 1 el_byteH _ _ _ HO.out (by rfl) _ (by rfl) rfl (by intro u hu; simp at hu; subst hu; rfl) (by unfold maxLen; have := HFS.out.2.2.2; omega) (by have := HFS.out.2.2.2; omega) HBL.out.size ?_); intro v2 w2 hown2 hb2)
                have hown3 := snocH ((bytes4 x).getD 0 0) _ ((H.take i).flatMap bytes4 ++ (bytes4 x).take 1) hown2 (by simp [bytes4, UInt8.toNat_ofNat']) (by rw [List.append_assoc]; rfl)
                exact ⟨⟨1, by first | rfl | go_num, by omega, Lib.hid hown3, Lib.hid (HBL.out.trans hb2)⟩, by simp⟩
              · clear hkl hk
                go_wp2_with (at_builtin; go_loud (refine wpList_append_new _ rfl (.tmp 167) (.tmp 177) 80 rfl wb.heap.size 5 1 1 el_byteH _ _ _ HO.out (by rfl) _ (by rfl) rfl (by intro u hu; simp at hu; subst hu; rfl) (by unfold maxLen; have := HFS.out.2.2.2; omega) (by have := HFS.out.2.2.2; omega) HBL.out.size ?_); intro v2 w2 hown2 hb2)
                have hown3 := snocH ((bytes4 x).getD 1 0) _ ((H.take i).flatMap bytes4 ++ (bytes4 x).take 2) hown2 (by simp [bytes4, UInt8.toNat_ofNat']) (by rw [List.append_assoc]; rfl)
                exact ⟨⟨2, by first | rfl | go_num, by omega, Lib.hid hown3, Lib.hid (HBL.out.trans hb2)⟩, by simp⟩
              · clear hkl hk
                go_wp2_with (at_builtin; go_loud (refine wpList_append_new _ rfl (.tmp 167) (.tmp 177) 80 rfl wb.heap.size 5 1 1 el_byteH _ _ _ HO.out (by rfl) _ (by rfl) rfl (by intro u hu; simp at hu; subst hu; rfl) (by unfold maxLen; have := HFS.out.2.2.2; omega) (by have := HFS.out.2.2.2; omega) HBL.out.size ?_); intro v2 w2 hown2 hb2)
                have hown3 := snocH ((bytes4 x).getD 2 0) _ ((H.take i).flatMap bytes4 ++ (bytes4 x).take 3) hown2 (by simp [bytes4, UInt8.toNat_ofNat']) (by rw [List.append_assoc]; rfl)
                exact ⟨⟨3, by first | rfl | go_num, by omega, Lib.hid hown3, Lib.hid (HBL.out.trans hb2)⟩, by simp⟩
              · clear hkl hk
                go_wp2_with (at_builtin; go_loud (refine wpList_append_new _ rfl (.tmp 167) (.tmp 177) 80 rfl wb.heap.size 5 1 1 el_byteH _ _ _ HO.out (by rfl) _ (by rfl) rfl (by intro u hu; simp at hu; subst hu; rfl) (by unfold maxLen; have := HFS.out.2.2.2; omega) (by have := HFS.out.2.2.2; omega) HBL.out.size ?_); intro v2 w2 hown2 hb2)
                have hown3 := snocH ((bytes4 x).getD 3 0) _ ((H.take i).flatMap bytes4 ++ (bytes4 x).take 4) hown2 (by simp [bytes4, UInt8.toNat_ofNat']) (by rw [List.append_assoc]; rfl)
                exact ⟨⟨4, by first | rfl | go_num, by omega, Lib.hid hown3, Lib.hid (HBL.out.trans hb2)⟩, by simp⟩
            · obtain rfl : k = 4 := by omega
              have hown4 : wr.ownsRow wb.heap.size 5 1 u21 (4 * (i + 1)) (byteVals ((H.take (i + 1)).flatMap bytes4)) := by
                rw [HFS.out.1, show 4 * (i + 1) = 4 * i + 4 by omega]
                have := HO.out
                rw [show (bytes4 x).take 4 = bytes4 x from rfl] at this
                unfold byteVals at this ⊢
                rw [List.map_append] at this
                exact this
              have HO4 := Lib.hid hown4
              clear hown4 HO cx
              go_wp2_with fail
              exact ⟨⟨i + 1, by first | rfl | go_num, by omega, HO4, HBL⟩, by simp [iOf]; omega⟩
        · obtain rfl : i = 8 := by omega
          have hcv := conv_own (P := Try.prog) HO.out 80 9 5 Try.underlying80 Try.underlying5 Try.underlying9
          rw [List.take_of_length_le (by rw [HW.out.1]; omega)] at hcv
          go_wp2_with fail
          go_ret
          refine ⟨?_, HS.out.2.2.2.1.trans (HBL.out.mono hbs)⟩
          unfold shaW
          rw [size_toList, HAL.out.1, HAL.out.2.1, HHE.out.1]
          rfl
end Go.Proofs.Ytnhbkfefpkocaaa
