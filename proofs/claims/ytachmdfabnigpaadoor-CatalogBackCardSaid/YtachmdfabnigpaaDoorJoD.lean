/-
  A header's bytes: Put, the program's and the reference's, of a header that may be.
-/
import Derived.Test.YtachmdfabnigpaaDoorJoC
namespace Go.Proofs.YtachmdfabnigpaaDoor
open Go.RowKit

theorem HeadAt.below' {w w' : World} {g : Nat} {t : TypeId} {id : Int} {sa : ByteArray} {n bs raw : Int} {ro ta : ByteArray} (h : HeadAt w g t id sa n bs raw ro ta) (hb : Below w.heap.size w w') : HeadAt w' g t id sa n bs raw ro ta := Bk.below' h hb
theorem hdrOk_parts {id : Int} {sa : ByteArray} {n bs raw : Int} {ro ta : ByteArray} (h : hdrOk id sa n bs raw ro ta = true) :
    1 ≤ id ∧ id ≤ 4294967295 ∧ sa.size = 16 ∧ ro.size = 32 ∧ ta.size = 32 ∧ 1 ≤ bs ∧ bs ≤ 49152 ∧ n = (bs + 191) / 192 ∧ 1 ≤ raw ∧ raw ≤ 134217728 := of_decide_eq_true h
theorem hdrS_size (id : Int) (sa : ByteArray) (n bs raw : Int) (ro : ByteArray) : (hdrS id sa n bs raw ro).size = 18 + sa.size + ro.size := by
  have h4 : (⟨#[83, 76, 71, 49]⟩ : ByteArray).size = 4 := rfl
  unfold hdrS
  rw [ByteArray.size_append, ByteArray.size_append, ByteArray.size_append, ByteArray.size_append, ByteArray.size_append, ByteArray.size_append, be4_size, be4_size, be4_size, be2_size, h4]
  omega
def allS (id : Int) (sa : ByteArray) (n bs raw : Int) (ro ta : ByteArray) : ByteArray := hdrS id sa n bs raw ro ++ ta
theorem hcheck_agg (id : Int) (sa : ByteArray) (n bs raw : Int) (ro ta : ByteArray) (b : Bool) (h : hdrOk id sa n bs raw ro ta = b) (w : World) :
    Calls Tryd.prog 34 #[.agg #[.int .i64 id, .string sa, .int .i64 n, .int .i64 bs, .int .i64 raw, .string ro, .string ta]] w fun e w' => e = .returned (.int .i64 (okE b)) ∧ Below w.heap.size w w' := by subst h; exact hcheck_any id sa n bs raw ro ta w
theorem hmay_agg (id : Int) (sa : ByteArray) (n bs raw : Int) (ro ta : ByteArray) (b : Bool) (h : hdrOk id sa n bs raw ro ta = b) (w : World) :
    Calls Tryd.prog 35 #[.agg #[.int .i64 id, .string sa, .int .i64 n, .int .i64 bs, .int .i64 raw, .string ro, .string ta]] w fun e w' => e = .returned (.bool b) ∧ Below w.heap.size w w' := by subst h; exact hmay_any id sa n bs raw ro ta w
theorem fields_agg (id : Int) (sa : ByteArray) (n bs raw : Int) (ro ta : ByteArray) (c : ByteArray) (hc : hdrS id sa n bs raw ro = c) (hs1 : sa.size ≤ 500) (hs2 : ro.size ≤ 500) (w : World) :
    Calls Tryd.prog 40 #[.agg #[.int .i64 id, .string sa, .int .i64 n, .int .i64 bs, .int .i64 raw, .string ro, .string ta]] w fun e w' => e = .returned (.string c) ∧ Below w.heap.size w w' := by subst hc; exact fields_any id sa n bs raw ro ta w hs1 hs2

set_option maxRecDepth 20000 in
set_option maxHeartbeats 4000000 in
theorem hput_any (id : Int) (sa : ByteArray) (n bs raw : Int) (ro ta : ByteArray) (w : World) (hk : hdrOk id sa n bs raw ro ta = true) :
    Calls Tryd.prog 22 #[.agg #[.int .i64 id, .string sa, .int .i64 n, .int .i64 bs, .int .i64 raw, .string ro, .string ta]] w fun e w' => e = .returned (.tuple #[.string (allS id sa n bs raw ro ta), .int .i64 0]) ∧ Below w.heap.size w w' := by
  have hb := (Below.refl w.heap.size w).alloc (Nat.le_refl _) (.cells #[.int .i64 id, .string sa, .int .i64 n, .int .i64 bs, .int .i64 raw, .string ro, .string ta] 23)
  have hH : HeadAt (w.alloc (.cells #[.int .i64 id, .string sa, .int .i64 n, .int .i64 bs, .int .i64 raw, .string ro, .string ta] 23)) w.heap.size 23 id sa n bs raw ro ta := Bk.new _ _ _
  have HK := Lib.hid hk
  have hsa := (hdrOk_parts hk).2.2.1
  have hro := (hdrOk_parts hk).2.2.2.1
  have hta := (hdrOk_parts hk).2.2.2.2.1
  obtain ⟨c, hc⟩ : ∃ c, hdrS id sa n bs raw ro = c := ⟨_, rfl⟩
  have hcs : c.size = 18 + sa.size + ro.size := by rw [← hc, hdrS_size]
  have hm : ¬ (9223372036854775807 < c.size + ta.size) := by omega
  have hs1 : sa.size ≤ 500 := by omega
  have hs2 : ro.size ≤ 500 := by omega
  have HC := Lib.hid hc
  have E := Lib.hid (show allS id sa n bs raw ro ta = c ++ ta by unfold allS; rw [hc])
  clear hk hsa hro hta hc hcs
  go_enter Tryd.func22, Tryd.ntmps22
  go_wp2_with fail
  with_reducible refine (hcheck_agg id sa n bs raw ro ta true HK.out _).mono ?_
  rintro e w0 ⟨rfl, hb0⟩
  have hH0 := hH.below' hb0
  have hb1 := bl hb hb0
  clear hH hb hb0
  go_upto_region 4 with (fail)
  obtain ⟨hc0, hc1, hc2, hc3, hc4, hc5, hc6⟩ := hH0.cells
  have hcw : Below w0.heap.size w0 w0.drew ∧ w0.drew.cell? ⟨w.heap.size, 0, none⟩ = some (.int .i64 id) ∧ w0.drew.cell? ⟨w.heap.size, 1, none⟩ = some (.string sa) ∧ w0.drew.cell? ⟨w.heap.size, 2, none⟩ = some (.int .i64 n) ∧ w0.drew.cell? ⟨w.heap.size, 3, none⟩ = some (.int .i64 bs) ∧ w0.drew.cell? ⟨w.heap.size, 4, none⟩ = some (.int .i64 raw) ∧ w0.drew.cell? ⟨w.heap.size, 5, none⟩ = some (.string ro) ∧ w0.drew.cell? ⟨w.heap.size, 6, none⟩ = some (.string ta) := ⟨(Below.refl _ _).drew, hc0, hc1, hc2, hc3, hc4, hc5, hc6⟩
  clear hc0 hc1 hc2 hc3 hc4 hc5 hc6
  go_region_held3 (fun w' => Below w0.heap.size w0 w' ∧ w'.cell? ⟨w.heap.size, 0, none⟩ = some (.int .i64 id) ∧ w'.cell? ⟨w.heap.size, 1, none⟩ = some (.string sa) ∧ w'.cell? ⟨w.heap.size, 2, none⟩ = some (.int .i64 n) ∧ w'.cell? ⟨w.heap.size, 3, none⟩ = some (.int .i64 bs) ∧ w'.cell? ⟨w.heap.size, 4, none⟩ = some (.int .i64 raw) ∧ w'.cell? ⟨w.heap.size, 5, none⟩ = some (.string ro) ∧ w'.cell? ⟨w.heap.size, 6, none⟩ = some (.string ta)) (first | exact hcw | assumption)
    (first | (go_at_call 40; with_reducible refine (fields_agg id sa n bs raw ro ta c HC.out hs1 hs2 _).mono ?_; rintro e w3 ⟨rfl, hb3⟩; have hX := held7 hb3 (by assumption)))
  go_wp2_with fail
  go_ret2
  exact ⟨by rw [E.out]; rfl, bl hb1 (And.left (by assumption))⟩


end Go.Proofs.YtachmdfabnigpaaDoor
