/-
  The law's example of the disk; the law DiskNone's walk.
-/
import Derived.Test.YtbblmjpjcabfpaaDkM
namespace Go.Proofs.Ytbblmjpjcabfpaa
open Go.RowKit Go.Maps

theorem fillS_take (b : UInt8) : (((fillS ⟨#[b]⟩).extract 0 2).toList == [b, 0]) = true := by
  rw [toList_pre]
  unfold fillS
  rw [toList_ofL, show (⟨#[b]⟩ : ByteArray).toList = [b] from toList_ofL [b]]
  simp
  rfl
theorem new_at (w : World) (k : Int) (n : Nat) (hk : k = n) (h1 : 1 ≤ n) (h2 : n ≤ 1024) :
    Calls Try.prog 8 #[.int .i64 k] w fun e w' => ∃ b g m, e = .returned (.tuple #[.pointer (some ⟨b, 0, none⟩), .int .i64 0]) ∧ DiskAt w' b g m (St.new n) n ∧ w.heap.size ≤ b ∧ w.heap.size ≤ g ∧ w.heap.size ≤ m ∧ Below w.heap.size w w' := by
  subst hk
  exact new_ok w n h1 h2
def exS (x y : ByteArray) (u v : ByteArray) (f g : Bool) : St := ⟨[x, y], [u, v], [f, g], -1, false⟩

set_option maxRecDepth 100000 in
set_option maxHeartbeats 4000000 in
theorem awake_any (w : World) : Calls Try.prog 16 #[] w fun e w' => e = .returned (.bool true) ∧ Below w.heap.size w w' := by
  obtain ⟨z, hz⟩ : ∃ z, fillS ⟨#[]⟩ = z := ⟨_, rfl⟩
  obtain ⟨xa, ha⟩ : ∃ z, fillS ⟨#[97]⟩ = z := ⟨_, rfl⟩
  obtain ⟨xb, hb⟩ : ∃ z, fillS ⟨#[98]⟩ = z := ⟨_, rfl⟩
  obtain ⟨xc, hc⟩ : ∃ z, fillS ⟨#[99]⟩ = z := ⟨_, rfl⟩
  have E0 := Lib.hid (show St.new 2 = exS z z z z false false by unfold St.new exS; rw [hz]; rfl)
  have E1 := Lib.hid (show (exS z z z z false false).wr 0 ⟨#[97]⟩ = (exS z z xa z true false, 0) by rw [← ha]; rfl)
  have E2 := Lib.hid (show (exS z z xa z true false).sync = (exS xa z xa z false false, 0) by rfl)
  have E3 := Lib.hid (show (exS xa z xa z false false).wr 0 ⟨#[98]⟩ = (exS xa z xb z true false, 0) by rw [← hb]; rfl)
  have E4 := Lib.hid (show (exS xa z xb z true false).wr 1 ⟨#[99]⟩ = (exS xa z xb xc true true, 0) by rw [← hc]; rfl)
  have E5 := Lib.hid (show (exS xa z xb xc true true).crash (bitOf 2) = exS xa xc xa xc false false by
    have b0 : bitOf 2 0 = false := by decide
    have b1 : bitOf 2 1 = true := by decide
    unfold St.crash exS
    simp [kept, b0, b1])
  have R0 := Lib.hid (show (exS xa xc xa xc false false).rd 0 = (xa, 0) by rfl)
  have R1 := Lib.hid (show (exS xa xc xa xc false false).rd 1 = (xc, 0) by rfl)
  have sa : xa.size = 256 := by rw [← ha]; exact fillS_size (by decide)
  have sc : xc.size = 256 := by rw [← hc]; exact fillS_size (by decide)
  have ta : ((xa.extract 0 2).toList == [97, 0]) = true := by rw [← ha]; exact fillS_take 97
  have tc : ((xc.extract 0 2).toList == [99, 0]) = true := by rw [← hc]; exact fillS_take 99
  clear hz ha hb hc
  go_enter Try.func16, Try.ntmps16
  go_wp2_with fail
  (with_reducible refine (new_at w 2 2 rfl (by omega) (by omega)).mono ?_)
  rintro e w1 ⟨b, g, m, rfl, hD, hB, hG, hM, hb1⟩
  rw [E0.out] at hD
  have H1 := Lib.hid hD
  have K1 := Lib.hid hb1
  have LB := Lib.hid (And.intro hB (And.intro hG hM))
  clear hD hB hG hM hb1
  go_wp2_with fail
  (with_reducible refine (write_any w1 b g m _ 2 0 ⟨#[97]⟩ H1.out (by decide)).mono ?_)
  rw [E1.out]
  rintro e w2 ⟨rfl, hD, hk⟩
  have H2 := Lib.hid hD
  have K2 := Lib.hid hk
  clear hD hk
  go_wp2_with fail
  (with_reducible refine (sync_any w2 b g m _ 2 H2.out).mono ?_)
  rw [E2.out]
  rintro e w3 ⟨rfl, hD, hk⟩
  have H3 := Lib.hid hD
  have K3 := Lib.hid hk
  clear hD hk
  go_wp2_with fail
  (with_reducible refine (write_any w3 b g m _ 2 0 ⟨#[98]⟩ H3.out (by decide)).mono ?_)
  rw [E3.out]
  rintro e w4 ⟨rfl, hD, hk⟩
  have H4 := Lib.hid hD
  have K4 := Lib.hid hk
  clear hD hk
  go_wp2_with fail
  (with_reducible refine (write_any w4 b g m _ 2 1 ⟨#[99]⟩ H4.out (by decide)).mono ?_)
  rw [E4.out]
  rintro e w5 ⟨rfl, hD, hk⟩
  have H5 := Lib.hid hD
  have K5 := Lib.hid hk
  clear hD hk
  go_wp2_with fail
  (with_reducible refine (crash_any w5 b g m _ 2 2 H5.out).mono ?_)
  rw [E5.out]
  rintro e w6 ⟨rfl, hD, hk⟩
  have H6 := Lib.hid hD
  have K6 := Lib.hid hk
  clear hD hk
  go_wp2_with fail
  (with_reducible refine (read_any w6 b g m _ 2 0 H6.out).mono ?_)
  rw [R0.out]
  rintro e w7 ⟨rfl, hb7⟩
  have K7 := Lib.hid hb7
  have H7 := Lib.hid (H6.out.below hb7)
  clear hb7
  go_wp2_with fail
  (with_reducible refine (read_any w7 b g m _ 2 1 H7.out).mono ?_)
  rw [R1.out]
  rintro e w8 ⟨rfl, hb8⟩
  have K8 := Lib.hid hb8
  clear hb8
  go_wp2_with fail
  go_ret
  obtain ⟨l1, l2, l3⟩ := LB.out
  have KK := ((((K2.out.trans K3.out).trans K4.out).trans K5.out).trans K6.out).below (B := w.heap.size) K1.out.size l1 l2 l3
  exact ⟨rfl, (K1.out.trans KK).trans ((bl K7.out K8.out).mono KK.size |> fun h => h.mono (by have := K1.out.size; omega))⟩
end Go.Proofs.Ytbblmjpjcabfpaa
