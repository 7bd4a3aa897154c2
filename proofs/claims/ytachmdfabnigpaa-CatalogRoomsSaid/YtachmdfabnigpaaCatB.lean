/-
  An entry of a catalog: do two meet (catalog.Meet, the reference's); the law's zeros, at and light.
-/
import Derived.Test.YtachmdfabnigpaaCatA
import Derived.Test.YtachmdfabnigpaaFrame
namespace Go.Proofs.Ytachmdfabnigpaa
open Go.RowKit

/-- Do two places meet? -/
def meetB (b1 n1 b2 n2 : Int) : Bool := decide (b1 < b2 + n2 ∧ b2 < b1 + n1)
theorem meet_sym (b1 n1 b2 n2 : Int) : meetB b2 n2 b1 n1 = meetB b1 n1 b2 n2 := by
  unfold meetB; rw [decide_eq_decide]; exact And.comm
theorem meet_self (b n : Int) (h : 1 ≤ n) : meetB b n b n = true := decide_eq_true ⟨by omega, by omega⟩
theorem extOk_num {id : Int} {sa : ByteArray} {n bs raw : Int} {ro ta : ByteArray} {ba : Int} (h : extOk id sa n bs raw ro ta ba = true) : 1 ≤ n ∧ n ≤ 256 ∧ 0 ≤ ba ∧ ba ≤ 1024 - n := by
  have h1 := hdrOk_parts (extOk_hdr h)
  unfold extOk at h
  rw [Bool.and_eq_true] at h
  have h2 := of_decide_eq_true h.2
  omega

set_option maxRecDepth 20000 in
set_option maxHeartbeats 2000000 in
theorem meet_any (id : Int) (sa : ByteArray) (n bs raw : Int) (ro ta : ByteArray) (ba : Int) (id2 : Int) (sa2 : ByteArray) (n2 bs2 raw2 : Int) (ro2 ta2 : ByteArray) (ba2 : Int) (q : Bool) (hq : meetB ba n ba2 n2 = q) (h1 : 1 ≤ n) (h2 : n ≤ 256) (h3 : 0 ≤ ba) (h4 : ba ≤ 1024) (k1 : 1 ≤ n2) (k2 : n2 ≤ 256) (k3 : 0 ≤ ba2) (k4 : ba2 ≤ 1024) (w : World) :
    Calls Try.prog 15 #[.agg #[.int .i64 id, .string sa, .int .i64 n, .int .i64 bs, .int .i64 raw, .string ro, .string ta, .int .i64 ba], .agg #[.int .i64 id2, .string sa2, .int .i64 n2, .int .i64 bs2, .int .i64 raw2, .string ro2, .string ta2, .int .i64 ba2]] w fun e w' => e = .returned (.bool q) ∧ Below w.heap.size w w' := by
  have Hq := Lib.hid hq
  clear hq
  have hb := ((Below.refl w.heap.size w).alloc (Nat.le_refl _) (.cells #[.int .i64 id, .string sa, .int .i64 n, .int .i64 bs, .int .i64 raw, .string ro, .string ta, .int .i64 ba] 25)).alloc (by simp) (.cells #[.int .i64 id2, .string sa2, .int .i64 n2, .int .i64 bs2, .int .i64 raw2, .string ro2, .string ta2, .int .i64 ba2] 25)
  by_cases c1 : ba < ba2 + n2
  · have H := Lib.hid (show decide (ba2 < ba + n) = q by
      rw [← Hq.out]; unfold meetB; rw [decide_eq_decide]; exact ⟨fun h => ⟨c1, h⟩, fun h => h.2⟩)
    go_enter Try.func15, Try.ntmps15
    go_wp2_with fail
    go_ret
    exact ⟨by rw [← H.out]; rfl, hb⟩
  · have H := Lib.hid (show q = false by
      rw [← Hq.out]; exact decide_eq_false (fun h => c1 h.1))
    go_enter Try.func15, Try.ntmps15
    go_wp2_with fail
    go_ret
    exact ⟨by rw [H.out]; rfl, hb⟩

set_option maxRecDepth 20000 in
set_option maxHeartbeats 2000000 in
theorem meetR_any (id : Int) (sa : ByteArray) (n bs raw : Int) (ro ta : ByteArray) (ba : Int) (id2 : Int) (sa2 : ByteArray) (n2 bs2 raw2 : Int) (ro2 ta2 : ByteArray) (ba2 : Int) (q : Bool) (hq : meetB ba n ba2 n2 = q) (h1 : 1 ≤ n) (h2 : n ≤ 256) (h3 : 0 ≤ ba) (h4 : ba ≤ 1024) (k1 : 1 ≤ n2) (k2 : n2 ≤ 256) (k3 : 0 ≤ ba2) (k4 : ba2 ≤ 1024) (w : World) :
    Calls Try.prog 16 #[.agg #[.int .i64 id, .string sa, .int .i64 n, .int .i64 bs, .int .i64 raw, .string ro, .string ta, .int .i64 ba], .agg #[.int .i64 id2, .string sa2, .int .i64 n2, .int .i64 bs2, .int .i64 raw2, .string ro2, .string ta2, .int .i64 ba2]] w fun e w' => e = .returned (.bool q) ∧ Below w.heap.size w w' := by
  have Hq := Lib.hid hq
  clear hq
  have hb := ((Below.refl w.heap.size w).alloc (Nat.le_refl _) (.cells #[.int .i64 id, .string sa, .int .i64 n, .int .i64 bs, .int .i64 raw, .string ro, .string ta, .int .i64 ba] 25)).alloc (by simp) (.cells #[.int .i64 id2, .string sa2, .int .i64 n2, .int .i64 bs2, .int .i64 raw2, .string ro2, .string ta2, .int .i64 ba2] 25)
  go_enter Try.func16, Try.ntmps16
  go_wp2_with fail
  go_loop [5] (fun v => ∃ i : Int, ba ≤ i ∧ i ≤ ba + n ∧ v = .int .i64 i ∧ Hid (∀ j, ba ≤ j → j < i → ¬ (ba2 ≤ j ∧ j < ba2 + n2))) (fun v => (ba + n - intOf v).toNat)
  case atStart => exact ⟨ba, by omega, by omega, rfl, Lib.hid (fun j a b => by omega)⟩
  case round =>
    obtain ⟨i, hi1, hi2, rfl, hf⟩ := hrel
    by_cases hlt : i < ba + n
    · by_cases c1 : ba2 ≤ i
      · by_cases c2 : i < ba2 + n2
        · have H := Lib.hid (show q = true by rw [← Hq.out]; exact decide_eq_true ⟨by omega, by omega⟩)
          go_wp2_with fail
          go_ret
          exact ⟨by rw [H.out]; rfl, hb⟩
        · have H := Lib.hid (show ∀ j, ba ≤ j → j < i + 1 → ¬ (ba2 ≤ j ∧ j < ba2 + n2) from fun j a b => by
            by_cases e : j = i
            · omega
            · exact hf.out j a (by omega))
          clear hf
          go_wp2_with fail
          go_round
          case rel => exact ⟨i + 1, by omega, by omega, rfl, H⟩
          case measure => simp [intOf]; omega
      · have H := Lib.hid (show ∀ j, ba ≤ j → j < i + 1 → ¬ (ba2 ≤ j ∧ j < ba2 + n2) from fun j a b => by
          by_cases e : j = i
          · omega
          · exact hf.out j a (by omega))
        clear hf
        go_wp2_with fail
        go_round
        case rel => exact ⟨i + 1, by omega, by omega, rfl, H⟩
        case measure => simp [intOf]; omega
    · obtain rfl : i = ba + n := by omega
      have H := Lib.hid (show q = false by
        rw [← Hq.out]
        refine decide_eq_false (fun h => ?_)
        by_cases e : ba ≤ ba2
        · exact hf.out ba2 e (by omega) ⟨by omega, by omega⟩
        · exact hf.out ba (by omega) (by omega) ⟨by omega, by omega⟩)
      clear hf
      go_wp2_with fail
      go_ret
      exact ⟨by rw [H.out]; rfl, hb⟩
end Go.Proofs.Ytachmdfabnigpaa
