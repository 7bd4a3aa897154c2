/-
  The walk of header.Take.
-/
import Derived.Test.YtachmdfabnigpaaDoorHdrM
import Derived.Test.YtachmdfabnigpaaDoorFixRT
import Derived.Deep.Cut
namespace Go.Proofs.YtachmdfabnigpaaDoor
open Go.RowKit

theorem suf_size (s : ByteArray) (k : Nat) (h : k ≤ s.size) : (s.extract k s.size).size = s.size - k := by rw [← size_toList, toList_suf, List.length_drop, size_toList]
theorem pre_size (s : ByteArray) (k : Nat) (h : k ≤ s.size) : (s.extract 0 k).size = k := by rw [← size_toList, toList_pre, List.length_take, size_toList]; omega
/-- A number of k bytes ahead of a text. -/
def nmH (s : ByteArray) (k : Nat) : Int := (num (s.toList.take k) : Int)
theorem takeF_k (s : ByteArray) (k : Nat) (h1 : 1 ≤ k) (h4 : k ≤ 4) (hs : k ≤ s.size) : takeF s.toList (k : Int) = (nmH s k, (s.extract k s.size).toList, 0) := by
  have hn := num_lt (s.toList.take k)
  rw [List.length_take, size_toList, Nat.min_eq_left hs] at hn
  have hp : (256 : Nat) ^ k ≤ 256 ^ 4 := Nat.pow_le_pow_right (by omega) h4
  unfold takeF nmH
  rw [if_neg (by omega), if_neg (by rw [size_toList]; omega), Int.toNat_natCast, toList_suf, wrap64_id _ (by omega) (by omega)]

/-- The closure 'number': the number ahead of what is left of a text, which is what is behind it then. -/
theorem number_cl (p : Nat) (c r : ByteArray) (k v : Int) (hv : takeF c.toList k = (v, r.toList, 0)) (hs : c.size ≤ 9223372036854775807) (w : World) (hB : Bk w p 9 #[.string c]) :
    Calls Tryd.prog 32 #[.int .i64 k, .pointer (some ⟨p, 0, none⟩)] w fun e w' => e = .returned (.int .i64 v) ∧ Bk w' p 9 #[.string r] ∧ w.grownBy w' (some p) := by
  have p0 : w.cell? ⟨p, 0, none⟩ = some (.string c) := hB.cell 0
  have Hv := Lib.hid hv
  clear hv
  go_enter Tryd.func32, Tryd.ntmps32
  go_wp2_with fail
  (with_reducible refine (takeF_is c r k v 0 _ hs Hv.out).mono ?_)
  rintro e w1 ⟨rfl, hb⟩
  have hB1 := hB.below' hb
  have p1 : w1.cell? ⟨p, 0, none⟩ = some (.string c) := hB1.cell 0
  have r1 := hB1.frozen 0
  have hB2 : Bk (w1.setCell ⟨p, 0, none⟩ (.string r)) p 9 #[.string r] := hB1.set_ 0 _
  have ho := only_trans (⟨hb.os, hb.tape, hb.output, hb.size, fun k hk _ => hb.block k hk⟩ : w.grownBy w1 (some p)) (only_set w1 p 0 (.string r))
  go_wp2_with fail
  go_ret
  exact ⟨rfl, hB2, ho⟩
/-- The closure 'text'. -/
theorem text_cl (p : Nat) (c a r : ByteArray) (k : Nat) (ha : c.extract 0 k = a) (hr : c.extract k c.size = r) (hk : k ≤ c.size) (hs : c.size ≤ 9223372036854775807) (w : World) (hB : Bk w p 9 #[.string c]) :
    Calls Tryd.prog 33 #[.int .i64 k, .pointer (some ⟨p, 0, none⟩)] w fun e w' => e = .returned (.string a) ∧ Bk w' p 9 #[.string r] ∧ w.grownBy w' (some p) := by
  have p0 : w.cell? ⟨p, 0, none⟩ = some (.string c) := hB.cell 0
  have r1 := hB.frozen 0
  subst ha
  subst hr
  have hB2 : Bk (w.setCell ⟨p, 0, none⟩ (.string (c.extract k c.size))) p 9 #[.string (c.extract k c.size)] := hB.set_ 0 _
  have ho := only_set w p 0 (.string (c.extract k c.size))
  go_enter Tryd.func33, Tryd.ntmps33
  go_wp2
  go_ret
  exact ⟨rfl, hB2, ho⟩
end Go.Proofs.YtachmdfabnigpaaDoor
