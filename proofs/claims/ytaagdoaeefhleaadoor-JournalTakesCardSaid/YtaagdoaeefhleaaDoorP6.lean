/-
  A header's fields, and its bytes: the program's and the reference's. A header's bytes: Put, the program's and the reference's, of a header that may be. May a place be? The reference's May of an api.Extent.
-/
import Derived.Test.YtaagdoaeefhleaaDoorP3
import Derived.Test.YtaagdoaeefhleaaDoorFixR
import Derived.Deep.RegionHeld3
import Derived.Deep.OwnRows
import Derived.Deep.Cut
namespace Go.Proofs.YtaagdoaeefhleaaDoor
open Go.RowKit

/-- A header's bytes but its tag. -/
def hdrS (id : Int) (sa : ByteArray) (n bs raw : Int) (ro : ByteArray) : ByteArray := ⟨#[83, 76, 71, 49]⟩ ++ ofL (be id 4) ++ sa ++ ofL (be n 2) ++ ofL (be bs 4) ++ ofL (be raw 4) ++ ro
theorem fixed4 (n : Int) (w : World) : Calls Tryd.prog 22 #[.int .i64 n, .int .i64 4] w fun e w' => e = .returned (.string (ofL (be n 4))) ∧ Below w.heap.size w w' := fixed_any n 4 w
theorem fixed2 (n : Int) (w : World) : Calls Tryd.prog 22 #[.int .i64 n, .int .i64 2] w fun e w' => e = .returned (.string (ofL (be n 2))) ∧ Below w.heap.size w w' := fixed_any n 2 w
theorem be4_size (n : Int) : (ofL (be n 4)).size = 4 := by rw [size_ofL, be_length]
theorem be2_size (n : Int) : (ofL (be n 2)).size = 2 := by rw [size_ofL, be_length]

/-- What a header's block holds. -/
def HeadAt (w : World) (g : Nat) (t : TypeId) (id : Int) (sa : ByteArray) (n bs raw : Int) (ro ta : ByteArray) : Prop := Bk w g t #[.int .i64 id, .string sa, .int .i64 n, .int .i64 bs, .int .i64 raw, .string ro, .string ta]
theorem HeadAt.cells {w : World} {g : Nat} {t : TypeId} {id : Int} {sa : ByteArray} {n bs raw : Int} {ro ta : ByteArray} (h : HeadAt w g t id sa n bs raw ro ta) :
    w.cell? ⟨g, 0, none⟩ = some (.int .i64 id) ∧ w.cell? ⟨g, 1, none⟩ = some (.string sa) ∧ w.cell? ⟨g, 2, none⟩ = some (.int .i64 n) ∧ w.cell? ⟨g, 3, none⟩ = some (.int .i64 bs) ∧ w.cell? ⟨g, 4, none⟩ = some (.int .i64 raw) ∧ w.cell? ⟨g, 5, none⟩ = some (.string ro) ∧ w.cell? ⟨g, 6, none⟩ = some (.string ta) :=
  ⟨Bk.cell h 0, Bk.cell h 1, Bk.cell h 2, Bk.cell h 3, Bk.cell h 4, Bk.cell h 5, Bk.cell h 6⟩
theorem held7 {wr w w1 : World} (hb : Below w.heap.size w w1) {a0 a1 a2 a3 a4 a5 a6 : Addr} {v0 v1 v2 v3 v4 v5 v6 : Value}
    (h : Below wr.heap.size wr w ∧ w.cell? a0 = some v0 ∧ w.cell? a1 = some v1 ∧ w.cell? a2 = some v2 ∧ w.cell? a3 = some v3 ∧ w.cell? a4 = some v4 ∧ w.cell? a5 = some v5 ∧ w.cell? a6 = some v6) :
    Below wr.heap.size wr w1 ∧ w1.cell? a0 = some v0 ∧ w1.cell? a1 = some v1 ∧ w1.cell? a2 = some v2 ∧ w1.cell? a3 = some v3 ∧ w1.cell? a4 = some v4 ∧ w1.cell? a5 = some v5 ∧ w1.cell? a6 = some v6 := by
  have k : ∀ {a : Addr} {v : Value}, w.cell? a = some v → w1.cell? a = some v := fun h => (hb.cell (World.block_lt_of_cell? w _ h)).trans h
  exact ⟨bl h.1 hb, k h.2.1, k h.2.2.1, k h.2.2.2.1, k h.2.2.2.2.1, k h.2.2.2.2.2.1, k h.2.2.2.2.2.2.1, k h.2.2.2.2.2.2.2⟩

set_option maxRecDepth 20000 in
set_option maxHeartbeats 4000000 in
theorem fields_any (id : Int) (sa : ByteArray) (n bs raw : Int) (ro ta : ByteArray) (w : World) (hs1 : sa.size ≤ 500) (hs2 : ro.size ≤ 500) :
    Calls Tryd.prog 36 #[headV id sa n bs raw ro ta] w fun e w' => e = .returned (.string (hdrS id sa n bs raw ro)) ∧ Below w.heap.size w w' := by
  have hb := (Below.refl w.heap.size w).alloc (Nat.le_refl _) (.cells #[.int .i64 id, .string sa, .int .i64 n, .int .i64 bs, .int .i64 raw, .string ro, .string ta] 23)
  have hH : HeadAt (w.alloc (.cells #[.int .i64 id, .string sa, .int .i64 n, .int .i64 bs, .int .i64 raw, .string ro, .string ta] 23)) w.heap.size 23 id sa n bs raw ro ta := Bk.new _ _ _
  unfold headV
  have z1 := be4_size id
  have z2 := be2_size n
  have z3 := be4_size bs
  have z4 := be4_size raw
  have z0 : (⟨#[83, 76, 71, 49]⟩ : ByteArray).size = 4 := rfl
  obtain ⟨c1, e1⟩ : ∃ c, (⟨#[83, 76, 71, 49]⟩ : ByteArray) ++ ofL (be id 4) = c := ⟨_, rfl⟩
  have k1 : c1.size ≤ 8 := by rw [← e1, ByteArray.size_append]; omega
  have m1 : ¬ (9223372036854775807 < ((⟨#[83, 76, 71, 49]⟩ : ByteArray)).size + (ofL (be id 4)).size) := by omega
  have m1b : ¬ (9223372036854775807 < 4 + (ofL (be id 4)).size) := by omega
  obtain ⟨c2, e2⟩ : ∃ c, c1 ++ sa = c := ⟨_, rfl⟩
  have k2 : c2.size ≤ 508 := by rw [← e2, ByteArray.size_append]; omega
  have m2 : ¬ (9223372036854775807 < (c1).size + (sa).size) := by omega
  obtain ⟨c3, e3⟩ : ∃ c, c2 ++ ofL (be n 2) = c := ⟨_, rfl⟩
  have k3 : c3.size ≤ 510 := by rw [← e3, ByteArray.size_append]; omega
  have m3 : ¬ (9223372036854775807 < (c2).size + (ofL (be n 2)).size) := by omega
  obtain ⟨c4, e4⟩ : ∃ c, c3 ++ ofL (be bs 4) = c := ⟨_, rfl⟩
  have k4 : c4.size ≤ 514 := by rw [← e4, ByteArray.size_append]; omega
  have m4 : ¬ (9223372036854775807 < (c3).size + (ofL (be bs 4)).size) := by omega
  obtain ⟨c5, e5⟩ : ∃ c, c4 ++ ofL (be raw 4) = c := ⟨_, rfl⟩
  have k5 : c5.size ≤ 518 := by rw [← e5, ByteArray.size_append]; omega
  have m5 : ¬ (9223372036854775807 < (c4).size + (ofL (be raw 4)).size) := by omega
  obtain ⟨c6, e6⟩ : ∃ c, c5 ++ ro = c := ⟨_, rfl⟩
  have k6 : c6.size ≤ 1018 := by rw [← e6, ByteArray.size_append]; omega
  have m6 : ¬ (9223372036854775807 < (c5).size + (ro).size) := by omega
  have E := Lib.hid (show hdrS id sa n bs raw ro = c6 by unfold hdrS; rw [e1, e2, e3, e4, e5, e6])
  clear z0 z1 z2 z3 z4 k1 k2 k3 k4 k5 k6 hs1 hs2
  go_enter Tryd.func36, Tryd.ntmps36
  go_upto_region 1 with (fail)
  generalize w.alloc (.cells #[.int .i64 id, .string sa, .int .i64 n, .int .i64 bs, .int .i64 raw, .string ro, .string ta] 23) = w1 at *
  obtain ⟨hc0, hc1, hc2, hc3, hc4, hc5, hc6⟩ := hH.cells
  have hcw : Below w1.heap.size w1 w1.drew ∧ w1.drew.cell? ⟨w.heap.size, 0, none⟩ = some (.int .i64 id) ∧ w1.drew.cell? ⟨w.heap.size, 1, none⟩ = some (.string sa) ∧ w1.drew.cell? ⟨w.heap.size, 2, none⟩ = some (.int .i64 n) ∧ w1.drew.cell? ⟨w.heap.size, 3, none⟩ = some (.int .i64 bs) ∧ w1.drew.cell? ⟨w.heap.size, 4, none⟩ = some (.int .i64 raw) ∧ w1.drew.cell? ⟨w.heap.size, 5, none⟩ = some (.string ro) ∧ w1.drew.cell? ⟨w.heap.size, 6, none⟩ = some (.string ta) := ⟨(Below.refl _ _).drew, hc0, hc1, hc2, hc3, hc4, hc5, hc6⟩
  clear hc0 hc1 hc2 hc3 hc4 hc5 hc6
  go_region_held3 (fun w' => Below w1.heap.size w1 w' ∧ w'.cell? ⟨w.heap.size, 0, none⟩ = some (.int .i64 id) ∧ w'.cell? ⟨w.heap.size, 1, none⟩ = some (.string sa) ∧ w'.cell? ⟨w.heap.size, 2, none⟩ = some (.int .i64 n) ∧ w'.cell? ⟨w.heap.size, 3, none⟩ = some (.int .i64 bs) ∧ w'.cell? ⟨w.heap.size, 4, none⟩ = some (.int .i64 raw) ∧ w'.cell? ⟨w.heap.size, 5, none⟩ = some (.string ro) ∧ w'.cell? ⟨w.heap.size, 6, none⟩ = some (.string ta)) (first | exact hcw | assumption)
    (first
      | (go_at_call 22; with_reducible refine (fixed4 _ _).mono ?_; rintro e w3 ⟨rfl, hb3⟩; have hX := held7 hb3 (by assumption))
      | (go_at_call 22; with_reducible refine (fixed2 _ _).mono ?_; rintro e w3 ⟨rfl, hb3⟩; have hX := held7 hb3 (by assumption)))
  go_wp2_with fail
  go_ret
  exact ⟨by rw [E.out]; rfl, bl hb (And.left (by assumption))⟩


end Go.Proofs.YtaagdoaeefhleaaDoor
namespace Go.Proofs.YtaagdoaeefhleaaDoor
open Go.RowKit

theorem HeadAt.below' {w w' : World} {g : Nat} {t : TypeId} {id : Int} {sa : ByteArray} {n bs raw : Int} {ro ta : ByteArray} (h : HeadAt w g t id sa n bs raw ro ta) (hb : Below w.heap.size w w') : HeadAt w' g t id sa n bs raw ro ta := Bk.below' h hb
theorem hdrOk_parts {id : Int} {sa : ByteArray} {n bs raw : Int} {ro ta : ByteArray} (h : hdrOk id sa n bs raw ro ta = true) :
    1 ≤ id ∧ id ≤ 4294967295 ∧ sa.size = 16 ∧ ro.size = 32 ∧ ta.size = 32 ∧ 1 ≤ bs ∧ bs ≤ 49152 ∧ n = (bs + 191) / 192 ∧ 1 ≤ raw ∧ raw ≤ 134217728 := of_decide_eq_true h
theorem hdrS_size (id : Int) (sa : ByteArray) (n bs raw : Int) (ro : ByteArray) : (hdrS id sa n bs raw ro).size = 18 + sa.size + ro.size := by
  have h4 : (⟨#[83, 76, 71, 49]⟩ : ByteArray).size = 4 := rfl
  unfold hdrS
  rw [ByteArray.size_append, ByteArray.size_append, ByteArray.size_append, ByteArray.size_append, ByteArray.size_append, ByteArray.size_append, be4_size, be4_size, be4_size, be2_size, h4]
  omega
def allS (id : Int) (sa : ByteArray) (n bs raw : Int) (ro ta : ByteArray) : ByteArray := hdrS id sa n bs raw ro ++ ta
theorem hcheck_agg (id : Int) (sa : ByteArray) (n bs raw : Int) (ro ta : ByteArray) (b : Bool) (h : hdrOk id sa n bs raw ro ta = b) (w : World) :
    Calls Tryd.prog 35 #[.agg #[.int .i64 id, .string sa, .int .i64 n, .int .i64 bs, .int .i64 raw, .string ro, .string ta]] w fun e w' => e = .returned (.int .i64 (okE b)) ∧ Below w.heap.size w w' := by subst h; exact hcheck_any id sa n bs raw ro ta w
theorem hmay_agg (id : Int) (sa : ByteArray) (n bs raw : Int) (ro ta : ByteArray) (b : Bool) (h : hdrOk id sa n bs raw ro ta = b) (w : World) :
    Calls Tryd.prog 42 #[.agg #[.int .i64 id, .string sa, .int .i64 n, .int .i64 bs, .int .i64 raw, .string ro, .string ta]] w fun e w' => e = .returned (.bool b) ∧ Below w.heap.size w w' := by subst h; exact hmay_any id sa n bs raw ro ta w
theorem fields_agg (id : Int) (sa : ByteArray) (n bs raw : Int) (ro ta : ByteArray) (c : ByteArray) (hc : hdrS id sa n bs raw ro = c) (hs1 : sa.size ≤ 500) (hs2 : ro.size ≤ 500) (w : World) :
    Calls Tryd.prog 36 #[.agg #[.int .i64 id, .string sa, .int .i64 n, .int .i64 bs, .int .i64 raw, .string ro, .string ta]] w fun e w' => e = .returned (.string c) ∧ Below w.heap.size w w' := by subst hc; exact fields_any id sa n bs raw ro ta w hs1 hs2

set_option maxRecDepth 20000 in
set_option maxHeartbeats 4000000 in
theorem hput_any (id : Int) (sa : ByteArray) (n bs raw : Int) (ro ta : ByteArray) (w : World) (hk : hdrOk id sa n bs raw ro ta = true) :
    Calls Tryd.prog 21 #[.agg #[.int .i64 id, .string sa, .int .i64 n, .int .i64 bs, .int .i64 raw, .string ro, .string ta]] w fun e w' => e = .returned (.tuple #[.string (allS id sa n bs raw ro ta), .int .i64 0]) ∧ Below w.heap.size w w' := by
  have hb := (Below.refl w.heap.size w).alloc (Nat.le_refl _) (.cells #[.int .i64 id, .string sa, .int .i64 n, .int .i64 bs, .int .i64 raw, .string ro, .string ta] 23)
  have hH : HeadAt (w.alloc (.cells #[.int .i64 id, .string sa, .int .i64 n, .int .i64 bs, .int .i64 raw, .string ro, .string ta] 23)) w.heap.size 23 id sa n bs raw ro ta := Bk.new _ _ _
  have HK := Lib.hid hk
  have hsa := (hdrOk_parts hk).2.2.1
  have hro := (hdrOk_parts hk).2.2.2.1
  have hta := (hdrOk_parts hk).2.2.2.2.1
  obtain ⟨c, hc⟩ : ∃ c, hdrS id sa n bs raw ro = c := ⟨_, rfl⟩
  have hcs : c.size = 18 + sa.size + ro.size := by rw [← hc, hdrS_size]
  have hm : ¬ (9223372036854775807 < c.size + ta.size) := by omega
  have hs1 : sa.size ≤ 500 := by omega
  have hs2 : ro.size ≤ 500 := by omega
  have HC := Lib.hid hc
  have E := Lib.hid (show allS id sa n bs raw ro ta = c ++ ta by unfold allS; rw [hc])
  clear hk hsa hro hta hc hcs
  go_enter Tryd.func21, Tryd.ntmps21
  go_wp2_with fail
  with_reducible refine (hcheck_agg id sa n bs raw ro ta true HK.out _).mono ?_
  rintro e w0 ⟨rfl, hb0⟩
  have hH0 := hH.below' hb0
  have hb1 := bl hb hb0
  clear hH hb hb0
  go_upto_region 4 with (fail)
  obtain ⟨hc0, hc1, hc2, hc3, hc4, hc5, hc6⟩ := hH0.cells
  have hcw : Below w0.heap.size w0 w0.drew ∧ w0.drew.cell? ⟨w.heap.size, 0, none⟩ = some (.int .i64 id) ∧ w0.drew.cell? ⟨w.heap.size, 1, none⟩ = some (.string sa) ∧ w0.drew.cell? ⟨w.heap.size, 2, none⟩ = some (.int .i64 n) ∧ w0.drew.cell? ⟨w.heap.size, 3, none⟩ = some (.int .i64 bs) ∧ w0.drew.cell? ⟨w.heap.size, 4, none⟩ = some (.int .i64 raw) ∧ w0.drew.cell? ⟨w.heap.size, 5, none⟩ = some (.string ro) ∧ w0.drew.cell? ⟨w.heap.size, 6, none⟩ = some (.string ta) := ⟨(Below.refl _ _).drew, hc0, hc1, hc2, hc3, hc4, hc5, hc6⟩
  clear hc0 hc1 hc2 hc3 hc4 hc5 hc6
  go_region_held3 (fun w' => Below w0.heap.size w0 w' ∧ w'.cell? ⟨w.heap.size, 0, none⟩ = some (.int .i64 id) ∧ w'.cell? ⟨w.heap.size, 1, none⟩ = some (.string sa) ∧ w'.cell? ⟨w.heap.size, 2, none⟩ = some (.int .i64 n) ∧ w'.cell? ⟨w.heap.size, 3, none⟩ = some (.int .i64 bs) ∧ w'.cell? ⟨w.heap.size, 4, none⟩ = some (.int .i64 raw) ∧ w'.cell? ⟨w.heap.size, 5, none⟩ = some (.string ro) ∧ w'.cell? ⟨w.heap.size, 6, none⟩ = some (.string ta)) (first | exact hcw | assumption)
    (first | (go_at_call 36; with_reducible refine (fields_agg id sa n bs raw ro ta c HC.out hs1 hs2 _).mono ?_; rintro e w3 ⟨rfl, hb3⟩; have hX := held7 hb3 (by assumption)))
  go_wp2_with fail
  go_ret2
  exact ⟨by rw [E.out]; rfl, bl hb1 (And.left (by assumption))⟩


end Go.Proofs.YtaagdoaeefhleaaDoor
namespace Go.Proofs.YtaagdoaeefhleaaDoor
open Go.RowKit

def ExtAt (w : World) (g : Nat) (id : Int) (sa : ByteArray) (n bs raw : Int) (ro ta : ByteArray) (ba : Int) : Prop := Bk w g 25 #[.int .i64 id, .string sa, .int .i64 n, .int .i64 bs, .int .i64 raw, .string ro, .string ta, .int .i64 ba]
theorem ExtAt.cells {w : World} {g : Nat} {id : Int} {sa : ByteArray} {n bs raw : Int} {ro ta : ByteArray} {ba : Int} (h : ExtAt w g id sa n bs raw ro ta ba) : w.cell? ⟨g, 0, none⟩ = some (.int .i64 id) ∧ w.cell? ⟨g, 1, none⟩ = some (.string sa) ∧ w.cell? ⟨g, 2, none⟩ = some (.int .i64 n) ∧ w.cell? ⟨g, 3, none⟩ = some (.int .i64 bs) ∧ w.cell? ⟨g, 4, none⟩ = some (.int .i64 raw) ∧ w.cell? ⟨g, 5, none⟩ = some (.string ro) ∧ w.cell? ⟨g, 6, none⟩ = some (.string ta) ∧ w.cell? ⟨g, 7, none⟩ = some (.int .i64 ba) := ⟨Bk.cell h 0, Bk.cell h 1, Bk.cell h 2, Bk.cell h 3, Bk.cell h 4, Bk.cell h 5, Bk.cell h 6, Bk.cell h 7⟩
theorem ExtAt.below' {w w' : World} {g : Nat} {id : Int} {sa : ByteArray} {n bs raw : Int} {ro ta : ByteArray} {ba : Int} (h : ExtAt w g id sa n bs raw ro ta ba) (hb : Below w.heap.size w w') : ExtAt w' g id sa n bs raw ro ta ba := Bk.below' h hb
/-- May a place be? -/
def extOk (id : Int) (sa : ByteArray) (n bs raw : Int) (ro ta : ByteArray) (ba : Int) : Bool := hdrOk id sa n bs raw ro ta && decide (0 ≤ ba ∧ ba ≤ 1024 - n)

set_option maxRecDepth 20000 in
set_option maxHeartbeats 2000000 in
theorem jmay_any (id : Int) (sa : ByteArray) (n bs raw : Int) (ro ta : ByteArray) (ba : Int) (w : World) :
    Calls Tryd.prog 33 #[.agg #[.int .i64 id, .string sa, .int .i64 n, .int .i64 bs, .int .i64 raw, .string ro, .string ta, .int .i64 ba]] w fun e w' => e = .returned (.bool (extOk id sa n bs raw ro ta ba)) ∧ Below w.heap.size w w' := by
  have hb := (Below.refl w.heap.size w).alloc (Nat.le_refl _) (.cells #[.int .i64 id, .string sa, .int .i64 n, .int .i64 bs, .int .i64 raw, .string ro, .string ta, .int .i64 ba] 25)
  have hR : ExtAt (w.alloc (.cells #[.int .i64 id, .string sa, .int .i64 n, .int .i64 bs, .int .i64 raw, .string ro, .string ta, .int .i64 ba] 25)) w.heap.size id sa n bs raw ro ta ba := Bk.new _ _ _
  cases hk : hdrOk id sa n bs raw ro ta with
  | false =>
    have H := Lib.hid (show extOk id sa n bs raw ro ta ba = false by unfold extOk; rw [hk]; rfl)
    have HK := Lib.hid hk
    clear hk
    go_enter Tryd.func33, Tryd.ntmps33
    go_wp2_with fail
    with_reducible refine (hmay_agg id sa n bs raw ro ta false HK.out _).mono ?_
    rintro e w3 ⟨rfl, hb3⟩
    go_wp2_with fail
    go_ret
    exact ⟨by rw [H.out]; rfl, bl hb hb3⟩
  | true =>
    have hn : 1 ≤ n ∧ n ≤ 256 := by have := hdrOk_parts hk; omega
    have hw : IntKind.i64.wrap (1024 - n) = 1024 - n := by rw [IntKind.wrap_i64]; omega
    have HK := Lib.hid hk
    clear hk
    by_cases h1 : ba < 0
    · have H := Lib.hid (show extOk id sa n bs raw ro ta ba = false by unfold extOk; rw [HK.out, decide_eq_false (p := 0 ≤ ba ∧ ba ≤ 1024 - n) (by omega)]; rfl)
      go_enter Tryd.func33, Tryd.ntmps33
      go_wp2_with fail
      with_reducible refine (hmay_agg id sa n bs raw ro ta true HK.out _).mono ?_
      rintro e w3 ⟨rfl, hb3⟩
      have hR3 := hR.below' hb3
      obtain ⟨hc0, hc1, hc2, hc3, hc4, hc5, hc6, hc7⟩ := hR3.cells
      go_wp2_with fail
      go_ret
      exact ⟨by rw [H.out]; rfl, bl hb hb3⟩
    · by_cases h2 : 1024 - n < ba
      · have H := Lib.hid (show extOk id sa n bs raw ro ta ba = decide (ba ≤ 1024 - n) by unfold extOk; rw [HK.out, decide_eq_false (p := 0 ≤ ba ∧ ba ≤ 1024 - n) (by omega), decide_eq_false (p := ba ≤ 1024 - n) (by omega)]; rfl)
        go_enter Tryd.func33, Tryd.ntmps33
        go_wp2_with fail
        with_reducible refine (hmay_agg id sa n bs raw ro ta true HK.out _).mono ?_
        rintro e w3 ⟨rfl, hb3⟩
        have hR3 := hR.below' hb3
        obtain ⟨hc0, hc1, hc2, hc3, hc4, hc5, hc6, hc7⟩ := hR3.cells
        go_wp2_with fail
        go_ret
        exact ⟨by rw [H.out]; rfl, bl hb hb3⟩
      · have H := Lib.hid (show extOk id sa n bs raw ro ta ba = true by unfold extOk; rw [HK.out, decide_eq_true (p := 0 ≤ ba ∧ ba ≤ 1024 - n) (by omega)]; rfl)
        go_enter Tryd.func33, Tryd.ntmps33
        go_wp2_with fail
        with_reducible refine (hmay_agg id sa n bs raw ro ta true HK.out _).mono ?_
        rintro e w3 ⟨rfl, hb3⟩
        have hR3 := hR.below' hb3
        obtain ⟨hc0, hc1, hc2, hc3, hc4, hc5, hc6, hc7⟩ := hR3.cells
        go_wp2_with fail
        go_ret
        exact ⟨by rw [H.out]; rfl, bl hb hb3⟩
end Go.Proofs.YtaagdoaeefhleaaDoor
