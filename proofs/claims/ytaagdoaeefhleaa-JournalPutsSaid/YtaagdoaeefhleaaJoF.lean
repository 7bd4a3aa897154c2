/-
  A record's bytes: journal.Put, the reference's Put.
-/
import Derived.Test.YtaagdoaeefhleaaJoE
namespace Go.Proofs.Ytaagdoaeefhleaa
open Go.RowKit

/-- A record's bytes, if it may be. -/
def jS (id : Int) (sa : ByteArray) (n bs raw : Int) (ro ta : ByteArray) (ba : Int) (L : List Bool) : ByteArray :=
  if recOk id sa n bs raw ro ta ba L then ⟨#[83, 76, 74, 49]⟩ ++ allS id sa n bs raw ro ta ++ ofL (be ba 2) ++ ofL (putW L 4) else ⟨#[]⟩
theorem recOk_hdr {id : Int} {sa : ByteArray} {n bs raw : Int} {ro ta : ByteArray} {ba : Int} {L : List Bool} (h : recOk id sa n bs raw ro ta ba L = true) : hdrOk id sa n bs raw ro ta = true := by
  unfold recOk extOk at h
  simp only [Bool.and_eq_true] at h
  exact h.1.1
theorem recOk_len {id : Int} {sa : ByteArray} {n bs raw : Int} {ro ta : ByteArray} {ba : Int} {L : List Bool} (h : recOk id sa n bs raw ro ta ba L = true) : extOk id sa n bs raw ro ta ba = true ∧ (L.length : Int) = n := by
  unfold recOk at h
  simp only [Bool.and_eq_true, decide_eq_true_eq] at h
  exact h
theorem jcheck_ok (id : Int) (sa : ByteArray) (n bs raw : Int) (ro ta : ByteArray) (ba : Int) (L : List Bool) (h : recOk id sa n bs raw ro ta ba L = true) (w : World) :
    Calls Try.prog 9 #[.agg #[.int .i64 id, .string sa, .int .i64 n, .int .i64 bs, .int .i64 raw, .string ro, .string ta, .int .i64 ba, .int .i64 (L.length : Nat), .int .u64 (wdN L 0 : Nat), .int .u64 (wdN L 1 : Nat), .int .u64 (wdN L 2 : Nat), .int .u64 (wdN L 3 : Nat)]] w fun e w' => e = .returned (.int .i64 0) ∧ Below w.heap.size w w' := by
  have := jcheck_any id sa n bs raw ro ta ba L w
  rw [h] at this
  exact this
theorem jcheck_no (id : Int) (sa : ByteArray) (n bs raw : Int) (ro ta : ByteArray) (ba : Int) (L : List Bool) (h : recOk id sa n bs raw ro ta ba L = false) (w : World) :
    Calls Try.prog 9 #[.agg #[.int .i64 id, .string sa, .int .i64 n, .int .i64 bs, .int .i64 raw, .string ro, .string ta, .int .i64 ba, .int .i64 (L.length : Nat), .int .u64 (wdN L 0 : Nat), .int .u64 (wdN L 1 : Nat), .int .u64 (wdN L 2 : Nat), .int .u64 (wdN L 3 : Nat)]] w fun e w' => e = .returned (.int .i64 1) ∧ Below w.heap.size w w' := by
  have := jcheck_any id sa n bs raw ro ta ba L w
  rw [h] at this
  exact this
theorem jmay_agg (id : Int) (sa : ByteArray) (n bs raw : Int) (ro ta : ByteArray) (ba : Int) (b : Bool) (h : extOk id sa n bs raw ro ta ba = b) (w : World) :
    Calls Try.prog 18 #[.agg #[.int .i64 id, .string sa, .int .i64 n, .int .i64 bs, .int .i64 raw, .string ro, .string ta, .int .i64 ba]] w fun e w' => e = .returned (.bool b) ∧ Below w.heap.size w w' := by
  have := jmay_any id sa n bs raw ro ta ba w
  rw [h] at this
  exact this
theorem hput_agg (id : Int) (sa : ByteArray) (n bs raw : Int) (ro ta : ByteArray) (c : ByteArray) (hk : hdrOk id sa n bs raw ro ta = true) (hc : allS id sa n bs raw ro ta = c) (w : World) :
    Calls Try.prog 15 #[.agg #[.int .i64 id, .string sa, .int .i64 n, .int .i64 bs, .int .i64 raw, .string ro, .string ta]] w fun e w' => e = .returned (.tuple #[.string c, .int .i64 0]) ∧ Below w.heap.size w w' := by subst hc; exact hput_any id sa n bs raw ro ta w hk
theorem hputR_agg (id : Int) (sa : ByteArray) (n bs raw : Int) (ro ta : ByteArray) (c : ByteArray) (hk : hdrOk id sa n bs raw ro ta = true) (hc : allS id sa n bs raw ro ta = c) (w : World) :
    Calls Try.prog 19 #[.agg #[.int .i64 id, .string sa, .int .i64 n, .int .i64 bs, .int .i64 raw, .string ro, .string ta]] w fun e w' => e = .returned (.tuple #[.string c, .int .i64 0]) ∧ Below w.heap.size w w' := by subst hc; exact hputRef_any id sa n bs raw ro ta w hk
theorem putS_agg (L : List Bool) (c : ByteArray) (hc : ofL (putW L 4) = c) (w : World) : Calls Try.prog 17 #[.agg #[.int .i64 (L.length : Nat), .int .u64 (wdN L 0 : Nat), .int .u64 (wdN L 1 : Nat), .int .u64 (wdN L 2 : Nat), .int .u64 (wdN L 3 : Nat)]] w fun e w' => e = .returned (.string c) ∧ Below w.heap.size w w' := by subst hc; exact putS_any L w
theorem fixed2_agg (n : Int) (c : ByteArray) (hc : ofL (be n 2) = c) (w : World) : Calls Try.prog 16 #[.int .i64 n, .int .i64 2] w fun e w' => e = .returned (.string c) ∧ Below w.heap.size w w' := by subst hc; exact fixed2 n w
theorem fixedR2_agg (n : Int) (c : ByteArray) (hc : ofL (be n 2) = c) (w : World) : Calls Try.prog 20 #[.int .i64 n, .int .i64 2] w fun e w' => e = .returned (.string c) ∧ Below w.heap.size w w' := by subst hc; exact fixedR2 n w
theorem allS_size {id : Int} {sa : ByteArray} {n bs raw : Int} {ro ta : ByteArray} (h : hdrOk id sa n bs raw ro ta = true) : (allS id sa n bs raw ro ta).size = 98 := by
  have := hdrOk_parts h
  unfold allS
  rw [ByteArray.size_append, hdrS_size]
  omega

set_option maxRecDepth 20000 in
set_option maxHeartbeats 4000000 in
theorem jput_any (id : Int) (sa : ByteArray) (n bs raw : Int) (ro ta : ByteArray) (ba : Int) (L : List Bool) (w : World) :
    Calls Try.prog 7 #[.agg #[.int .i64 id, .string sa, .int .i64 n, .int .i64 bs, .int .i64 raw, .string ro, .string ta, .int .i64 ba, .int .i64 (L.length : Nat), .int .u64 (wdN L 0 : Nat), .int .u64 (wdN L 1 : Nat), .int .u64 (wdN L 2 : Nat), .int .u64 (wdN L 3 : Nat)]] w fun e w' => e = .returned (.tuple #[.string (jS id sa n bs raw ro ta ba L), .int .i64 (okE (recOk id sa n bs raw ro ta ba L))]) ∧ Below w.heap.size w w' := by
  have hb := (Below.refl w.heap.size w).alloc (Nat.le_refl _) (.cells #[.int .i64 id, .string sa, .int .i64 n, .int .i64 bs, .int .i64 raw, .string ro, .string ta, .int .i64 ba, .int .i64 (L.length : Nat), .int .u64 (wdN L 0 : Nat), .int .u64 (wdN L 1 : Nat), .int .u64 (wdN L 2 : Nat), .int .u64 (wdN L 3 : Nat)] 37)
  have hR : RecAt (w.alloc (.cells #[.int .i64 id, .string sa, .int .i64 n, .int .i64 bs, .int .i64 raw, .string ro, .string ta, .int .i64 ba, .int .i64 (L.length : Nat), .int .u64 (wdN L 0 : Nat), .int .u64 (wdN L 1 : Nat), .int .u64 (wdN L 2 : Nat), .int .u64 (wdN L 3 : Nat)] 37)) w.heap.size id sa n bs raw ro ta ba L := Bk.new _ _ _
  cases hk : recOk id sa n bs raw ro ta ba L with
  | false =>
    have E := Lib.hid (show jS id sa n bs raw ro ta ba L = ⟨#[]⟩ by unfold jS; rw [hk]; rfl)
    have HK := Lib.hid hk
    clear hk
    go_enter Try.func7, Try.ntmps7
    go_wp2_with fail
    with_reducible refine (jcheck_no id sa n bs raw ro ta ba L HK.out _).mono ?_
    rintro e w3 ⟨rfl, hb3⟩
    go_wp2_with fail
    go_ret2
    exact ⟨by rw [E.out]; rfl, bl hb hb3⟩
  | true =>
    obtain ⟨c1, h1⟩ : ∃ c, allS id sa n bs raw ro ta = c := ⟨_, rfl⟩
    obtain ⟨c2, h2⟩ : ∃ c, ofL (be ba 2) = c := ⟨_, rfl⟩
    obtain ⟨c3, h3⟩ : ∃ c, ofL (putW L 4) = c := ⟨_, rfl⟩
    have z1 : c1.size = 98 := by rw [← h1]; exact allS_size (recOk_hdr hk)
    have z2 : c2.size = 2 := by rw [← h2]; exact be2_size ba
    have z3 : c3.size = 32 := by rw [← h3, size_ofL, putW_length]
    obtain ⟨d1, e1⟩ : ∃ c, (⟨#[83, 76, 74, 49]⟩ : ByteArray) ++ c1 = c := ⟨_, rfl⟩
    obtain ⟨d2, e2⟩ : ∃ c, d1 ++ c2 = c := ⟨_, rfl⟩
    have y0 : (⟨#[83, 76, 74, 49]⟩ : ByteArray).size = 4 := rfl
    have y1 : d1.size = 102 := by rw [← e1, ByteArray.size_append]; omega
    have y2 : d2.size = 104 := by rw [← e2, ByteArray.size_append]; omega
    have m1 : ¬ (9223372036854775807 < 4 + c1.size) := by omega
    have m2 : ¬ (9223372036854775807 < d1.size + c2.size) := by omega
    have m3 : ¬ (9223372036854775807 < d2.size + c3.size) := by omega
    have E := Lib.hid (show jS id sa n bs raw ro ta ba L = d2 ++ c3 by unfold jS; rw [hk, h1, h2, h3, e1, e2]; rfl)
    have HD := Lib.hid (recOk_hdr hk)
    have HK := Lib.hid hk
    have H1 := Lib.hid h1
    have H2 := Lib.hid h2
    have H3 := Lib.hid h3
    clear hk h1 h2 h3 z1 z2 z3 y0 y1 y2
    go_enter Try.func7, Try.ntmps7
    go_wp2_with fail
    with_reducible refine (jcheck_ok id sa n bs raw ro ta ba L HK.out _).mono ?_
    rintro e w3 ⟨rfl, hb3⟩
    have hR3 := hR.below' hb3
    have hb4 := bl hb hb3
    clear hb hb3 hR
    obtain ⟨hc0, hc1, hc2, hc3, hc4, hc5, hc6, hc7, hc8, hc9, hc10, hc11, hc12⟩ := hR3.cells
    go_wp2_with fail
    with_reducible refine (hput_agg id sa n bs raw ro ta c1 HD.out H1.out _).mono ?_
    rintro e w5 ⟨rfl, hb5⟩
    clear hc0 hc1 hc2 hc3 hc4 hc5 hc6 hc7 hc8 hc9 hc10 hc11 hc12
    have hR5 := hR3.below' hb5
    have hb6 := bl hb4 hb5
    clear hb4 hb5 hR3
    go_upto_region 5 with (fail)
    obtain ⟨hc0, hc1, hc2, hc3, hc4, hc5, hc6, hc7, hc8, hc9, hc10, hc11, hc12⟩ := hR5.cells
    have hcw : Below w5.heap.size w5 w5.drew ∧ w5.drew.cell? ⟨w.heap.size, 0, none⟩ = some (.int .i64 id) ∧ w5.drew.cell? ⟨w.heap.size, 1, none⟩ = some (.string sa) ∧ w5.drew.cell? ⟨w.heap.size, 2, none⟩ = some (.int .i64 n) ∧ w5.drew.cell? ⟨w.heap.size, 3, none⟩ = some (.int .i64 bs) ∧ w5.drew.cell? ⟨w.heap.size, 4, none⟩ = some (.int .i64 raw) ∧ w5.drew.cell? ⟨w.heap.size, 5, none⟩ = some (.string ro) ∧ w5.drew.cell? ⟨w.heap.size, 6, none⟩ = some (.string ta) ∧ w5.drew.cell? ⟨w.heap.size, 7, none⟩ = some (.int .i64 ba) ∧ w5.drew.cell? ⟨w.heap.size, 8, none⟩ = some (.int .i64 (L.length : Nat)) ∧ w5.drew.cell? ⟨w.heap.size, 9, none⟩ = some (.int .u64 (wdN L 0 : Nat)) ∧ w5.drew.cell? ⟨w.heap.size, 10, none⟩ = some (.int .u64 (wdN L 1 : Nat)) ∧ w5.drew.cell? ⟨w.heap.size, 11, none⟩ = some (.int .u64 (wdN L 2 : Nat)) ∧ w5.drew.cell? ⟨w.heap.size, 12, none⟩ = some (.int .u64 (wdN L 3 : Nat)) := ⟨(Below.refl _ _).drew, hc0, hc1, hc2, hc3, hc4, hc5, hc6, hc7, hc8, hc9, hc10, hc11, hc12⟩
    clear hc0 hc1 hc2 hc3 hc4 hc5 hc6 hc7 hc8 hc9 hc10 hc11 hc12
    refine wp_region_held_drew (S := fun w' => Below w5.heap.size w5 w' ∧ w'.cell? ⟨w.heap.size, 0, none⟩ = some (.int .i64 id) ∧ w'.cell? ⟨w.heap.size, 1, none⟩ = some (.string sa) ∧ w'.cell? ⟨w.heap.size, 2, none⟩ = some (.int .i64 n) ∧ w'.cell? ⟨w.heap.size, 3, none⟩ = some (.int .i64 bs) ∧ w'.cell? ⟨w.heap.size, 4, none⟩ = some (.int .i64 raw) ∧ w'.cell? ⟨w.heap.size, 5, none⟩ = some (.string ro) ∧ w'.cell? ⟨w.heap.size, 6, none⟩ = some (.string ta) ∧ w'.cell? ⟨w.heap.size, 7, none⟩ = some (.int .i64 ba) ∧ w'.cell? ⟨w.heap.size, 8, none⟩ = some (.int .i64 (L.length : Nat)) ∧ w'.cell? ⟨w.heap.size, 9, none⟩ = some (.int .u64 (wdN L 0 : Nat)) ∧ w'.cell? ⟨w.heap.size, 10, none⟩ = some (.int .u64 (wdN L 1 : Nat)) ∧ w'.cell? ⟨w.heap.size, 11, none⟩ = some (.int .u64 (wdN L 2 : Nat)) ∧ w'.cell? ⟨w.heap.size, 12, none⟩ = some (.int .u64 (wdN L 3 : Nat))) (by kernel_rfl) hcw (fun _ => ?_)
    refine anyH_take (i := 0) (v := ?_) rfl (by kernel_rfl) (by kernel_rfl) (by kernel_rfl) (fun _ _ _ h => h) (by rfl) ?_ (by assumption) ?_
    rotate_left
    · intro w' hSw; (try dsimp only at hSw); go_simp; (try with_reducible rfl)
    try simp only [Act.put, List.setIfInBounds_toArray, List.set_cons_zero, List.set_cons_succ]
    refine anyH_take (i := 1) (v := ?_) rfl (by kernel_rfl) (by kernel_rfl) (by kernel_rfl) (fun _ _ _ h => h) (by rfl) ?_ (by assumption) ?_
    rotate_left
    · intro w' hSw; (try dsimp only at hSw); go_simp; (try with_reducible rfl)
    try simp only [Act.put, List.setIfInBounds_toArray, List.set_cons_zero, List.set_cons_succ]
    refine anyH_take (i := 2) (v := ?_) rfl (by kernel_rfl) (by kernel_rfl) (by kernel_rfl) (fun _ _ _ h => h) (by rfl) ?_ (by assumption) ?_
    rotate_left
    · intro w' hSw; (try dsimp only at hSw); go_simp; (try with_reducible rfl)
    try simp only [Act.put, List.setIfInBounds_toArray, List.set_cons_zero, List.set_cons_succ]
    refine anyH_take (i := 3) (v := ?_) rfl (by kernel_rfl) (by kernel_rfl) (by kernel_rfl) (fun _ _ _ h => h) (by rfl) ?_ (by assumption) ?_
    rotate_left
    · intro w' hSw; (try dsimp only at hSw); go_simp; (try with_reducible rfl)
    try simp only [Act.put, List.setIfInBounds_toArray, List.set_cons_zero, List.set_cons_succ]
    refine anyH_take (i := 4) (v := ?_) rfl (by kernel_rfl) (by kernel_rfl) (by kernel_rfl) (fun _ _ _ h => h) (by rfl) ?_ (by assumption) ?_
    rotate_left
    · intro w' hSw; (try dsimp only at hSw); go_simp; (try with_reducible rfl)
    try simp only [Act.put, List.setIfInBounds_toArray, List.set_cons_zero, List.set_cons_succ]
    refine anyH_take (i := 7) (v := ?_) rfl (by kernel_rfl) (by kernel_rfl) (by kernel_rfl) (fun _ _ _ h => h) (by rfl) ?_ (by assumption) ?_
    rotate_left
    · intro w' hSw; (try dsimp only at hSw); go_simp; (try with_reducible rfl)
    try simp only [Act.put, List.setIfInBounds_toArray, List.set_cons_zero, List.set_cons_succ]
    refine anyH_take (i := 8) (v := ?_) rfl (by kernel_rfl) (by kernel_rfl) (by kernel_rfl) (fun _ _ _ h => h) (by rfl) ?_ (by assumption) ?_
    rotate_left
    · intro w' hSw; (try dsimp only at hSw); go_simp; (try with_reducible rfl)
    try simp only [Act.put, List.setIfInBounds_toArray, List.set_cons_zero, List.set_cons_succ]
    refine anyH_call (i := 5) rfl (by kernel_rfl) (by rfl) (fun K hK => ?_)
    go_simp
    go_at_call 16; with_reducible refine (fixed2_agg ba c2 H2.out _).mono ?_; rintro e w7 ⟨rfl, hb7⟩; have hX := held13 hb7 (by assumption)
    refine hK.out _ _ hX (fun _ => ?_)
    clear hK K
    try simp only [Act.put, List.setIfInBounds_toArray, List.set_cons_zero, List.set_cons_succ]
    refine anyH_take (i := 6) (v := ?_) rfl (by kernel_rfl) (by kernel_rfl) (by kernel_rfl) (fun _ _ _ h => h) (by rfl) ?_ (by assumption) ?_
    rotate_left
    · intro w' hSw; (try dsimp only at hSw); go_simp; (try with_reducible rfl)
    try simp only [Act.put, List.setIfInBounds_toArray, List.set_cons_zero, List.set_cons_succ]
    refine anyH_call (i := 9) rfl (by kernel_rfl) (by rfl) (fun K hK => ?_)
    go_simp
    go_at_call 17; with_reducible refine (putS_agg L c3 H3.out _).mono ?_; rintro e w8 ⟨rfl, hb8⟩; have hX := held13 hb8 (by assumption)
    refine hK.out _ _ hX (fun _ => ?_)
    clear hK K
    try simp only [Act.put, List.setIfInBounds_toArray, List.set_cons_zero, List.set_cons_succ]
    refine anyH_take (i := 10) (v := ?_) rfl (by kernel_rfl) (by kernel_rfl) (by kernel_rfl) (fun _ _ _ h => h) (by rfl) ?_ (by assumption) ?_
    rotate_left
    · intro w' hSw; (try dsimp only at hSw); go_simp; (try with_reducible rfl)
    try simp only [Act.put, List.setIfInBounds_toArray, List.set_cons_zero, List.set_cons_succ]
    refine anyH_take (i := 11) (v := ?_) rfl (by kernel_rfl) (by kernel_rfl) (by kernel_rfl) (fun _ _ _ h => h) (by rfl) ?_ (by assumption) ?_
    rotate_left
    · intro w' hSw; (try dsimp only at hSw); go_simp; (try with_reducible rfl)
    try simp only [Act.put, List.setIfInBounds_toArray, List.set_cons_zero, List.set_cons_succ]
    refine anyH_take (i := 12) (v := ?_) rfl (by kernel_rfl) (by kernel_rfl) (by kernel_rfl) (fun _ _ _ h => h) (by rfl) ?_ (by assumption) ?_
    rotate_left
    · intro w' hSw; (try dsimp only at hSw); go_simp; (try with_reducible rfl)
    try simp only [Act.put, List.setIfInBounds_toArray, List.set_cons_zero, List.set_cons_succ]
    refine wpAnyH_done (by kernel_rfl) ?_ _
    go_wp2_with fail
    go_ret2
    exact ⟨by rw [E.out]; rfl, bl hb6 (And.left (by assumption))⟩

set_option maxRecDepth 20000 in
set_option maxHeartbeats 4000000 in
theorem jputRef_any (id : Int) (sa : ByteArray) (n bs raw : Int) (ro ta : ByteArray) (ba : Int) (A : Option Addr) (m c : Nat) (L : List Bool) (w : World) (hL : L.length = m) (hm : m ≤ 256) (hr : Rd w A (L.map Value.bool)) :
    Calls Try.prog 8 #[.agg #[.int .i64 id, .string sa, .int .i64 n, .int .i64 bs, .int .i64 raw, .string ro, .string ta, .int .i64 ba], .slice A m c] w fun e w' => e = .returned (.tuple #[.string (jS id sa n bs raw ro ta ba L), .int .i64 (okE (recOk id sa n bs raw ro ta ba L))]) ∧ Below w.heap.size w w' := by
  have hb := (Below.refl w.heap.size w).alloc (Nat.le_refl _) (.cells #[.int .i64 id, .string sa, .int .i64 n, .int .i64 bs, .int .i64 raw, .string ro, .string ta, .int .i64 ba] 25)
  have hR : ExtAt (w.alloc (.cells #[.int .i64 id, .string sa, .int .i64 n, .int .i64 bs, .int .i64 raw, .string ro, .string ta, .int .i64 ba] 25)) w.heap.size id sa n bs raw ro ta ba := Bk.new _ _ _
  have hrA := hr.below hb
  have HL := Lib.hid hL
  cases hk : extOk id sa n bs raw ro ta ba with
  | false =>
    have hq : recOk id sa n bs raw ro ta ba L = false := by unfold recOk; rw [hk]; rfl
    have E := Lib.hid (show jS id sa n bs raw ro ta ba L = ⟨#[]⟩ by unfold jS; rw [hq]; rfl)
    have F := Lib.hid (show okE (recOk id sa n bs raw ro ta ba L) = 1 by rw [hq]; rfl)
    have HK := Lib.hid hk
    clear hk hL hq hr
    go_enter Try.func8, Try.ntmps8
    go_wp2_with fail
    with_reducible refine (jmay_agg id sa n bs raw ro ta ba false HK.out _).mono ?_
    rintro e w3 ⟨rfl, hb3⟩
    go_wp2_with fail
    go_ret2
    exact ⟨by rw [E.out, F.out]; rfl, bl hb hb3⟩
  | true =>
    by_cases hq : (m : Int) = n
    · have hrk : recOk id sa n bs raw ro ta ba L = true := by unfold recOk; rw [hk, hL, decide_eq_true hq]; rfl
      have hqb : ((m : Int) != n) = false := by simp [hq]
      obtain ⟨c1, h1⟩ : ∃ c, allS id sa n bs raw ro ta = c := ⟨_, rfl⟩
      obtain ⟨c2, h2⟩ : ∃ c, ofL (be ba 2) = c := ⟨_, rfl⟩
      obtain ⟨c3, h3⟩ : ∃ c, ofL (putW L 4) = c := ⟨_, rfl⟩
      have z1 : c1.size = 98 := by rw [← h1]; exact allS_size (recOk_hdr hrk)
      have z2 : c2.size = 2 := by rw [← h2]; exact be2_size ba
      have z3 : c3.size = 32 := by rw [← h3, size_ofL, putW_length]
      obtain ⟨d1, e1⟩ : ∃ c, (⟨#[83, 76, 74, 49]⟩ : ByteArray) ++ c1 = c := ⟨_, rfl⟩
      obtain ⟨d2, e2⟩ : ∃ c, d1 ++ c2 = c := ⟨_, rfl⟩
      have y0 : (⟨#[83, 76, 74, 49]⟩ : ByteArray).size = 4 := rfl
      have y1 : d1.size = 102 := by rw [← e1, ByteArray.size_append]; omega
      have y2 : d2.size = 104 := by rw [← e2, ByteArray.size_append]; omega
      have m1 : ¬ (9223372036854775807 < 4 + c1.size) := by omega
      have m2 : ¬ (9223372036854775807 < d1.size + c2.size) := by omega
      have m3 : ¬ (9223372036854775807 < d2.size + c3.size) := by omega
      have E := Lib.hid (show jS id sa n bs raw ro ta ba L = d2 ++ c3 by unfold jS; rw [hrk, h1, h2, h3, e1, e2]; rfl)
      have F := Lib.hid (show okE (recOk id sa n bs raw ro ta ba L) = 0 by rw [hrk]; rfl)
      have HD := Lib.hid (recOk_hdr hrk)
      have HK := Lib.hid hk
      have H1 := Lib.hid h1
      have H2 := Lib.hid h2
      have H3 := Lib.hid h3
      clear hk h1 h2 h3 z1 z2 z3 y0 y1 y2 hq hrk hL hr
      go_enter Try.func8, Try.ntmps8
      go_wp2_with fail
      with_reducible refine (jmay_agg id sa n bs raw ro ta ba true HK.out _).mono ?_
      rintro e w3 ⟨rfl, hb3⟩
      have hR3 := hR.below' hb3
      have hrB := hrA.below hb3
      have hb4 := bl hb hb3
      clear hb hb3 hR hrA
      obtain ⟨hc0, hc1, hc2, hc3, hc4, hc5, hc6, hc7⟩ := hR3.cells
      go_wp2_with fail
      with_reducible refine (hputR_agg id sa n bs raw ro ta c1 HD.out H1.out _).mono ?_
      rintro e w5 ⟨rfl, hb5⟩
      clear hc0 hc1 hc2 hc3 hc4 hc5 hc6 hc7
      have hR5 := hR3.below' hb5
      have hrC := hrB.below hb5
      have hb6 := bl hb4 hb5
      clear hb4 hb5 hR3 hrB
      obtain ⟨hc0, hc1, hc2, hc3, hc4, hc5, hc6, hc7⟩ := hR5.cells
      go_wp2_with fail
      with_reducible refine (fixedR2_agg ba c2 H2.out _).mono ?_
      rintro e w7 ⟨rfl, hb7⟩
      have hrD := hrC.below hb7
      clear hc0 hc1 hc2 hc3 hc4 hc5 hc6 hc7
      go_wp2_with fail
      refine (putRef_any A m c L _ HL.out (by omega) hrD).mono ?_
      rw [H3.out]
      rintro e w8 ⟨rfl, hb8⟩
      go_wp2_with fail
      go_ret2
      exact ⟨by rw [E.out, F.out]; rfl, bl (bl hb6 hb7) hb8⟩
    · have hrk : recOk id sa n bs raw ro ta ba L = false := by unfold recOk; rw [hk, hL, decide_eq_false hq]; rfl
      have hqb : ((m : Int) != n) = true := by simp [hq]
      have E := Lib.hid (show jS id sa n bs raw ro ta ba L = ⟨#[]⟩ by unfold jS; rw [hrk]; rfl)
      have F := Lib.hid (show okE (recOk id sa n bs raw ro ta ba L) = 1 by rw [hrk]; rfl)
      have HK := Lib.hid hk
      clear hk hL hq hr hrk
      go_enter Try.func8, Try.ntmps8
      go_wp2_with fail
      with_reducible refine (jmay_agg id sa n bs raw ro ta ba true HK.out _).mono ?_
      rintro e w3 ⟨rfl, hb3⟩
      have hR3 := hR.below' hb3
      obtain ⟨hc0, hc1, hc2, hc3, hc4, hc5, hc6, hc7⟩ := hR3.cells
      go_wp2_with fail
      go_ret2
      exact ⟨by rw [E.out, F.out]; rfl, bl hb hb3⟩
end Go.Proofs.Ytaagdoaeefhleaa
