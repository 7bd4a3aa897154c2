/-
  Entries in a row: the reference's Room.
-/
import Derived.Test.YtachmdfabnigpaaCatL
import Derived.BigQuiet
import Derived.Deep.QuietTactic
namespace Go.Proofs.Ytachmdfabnigpaa
open Go.RowKit Go.Sort

/-- No entry has a sector of these. -/
def Free (n a : Int) (l : List Ent) : Prop := ∀ x ∈ l, ¬ (a < x.ba + x.n ∧ x.ba - a < n)
def freeB (n a : Int) (l : List Ent) : Bool := l.all fun x => !(decide (a < x.ba + x.n) && decide (x.ba - a < n))
theorem freeB_iff (n a : Int) (l : List Ent) : freeB n a l = true ↔ Free n a l := by
  unfold freeB Free
  rw [List.all_eq_true]
  refine forall_congr' fun x => imp_congr_right fun _ => ?_
  cases h1 : decide (a < x.ba + x.n) <;> cases h2 : decide (x.ba - a < n) <;> simp_all
theorem freeB_take {n a : Int} {l : List Ent} {k : Nat} {x : Ent} (h : l[k]? = some x) : freeB n a (l.take (k + 1)) = (freeB n a (l.take k) && !(decide (a < x.ba + x.n) && decide (x.ba - a < n))) := by
  rw [List.take_add_one, h, Option.toList_some]
  unfold freeB
  rw [List.all_append]
  simp
theorem rd_cells {w : World} {A : Option Addr} {l : List Ent} (hr : Rd w A (flat l)) {k : Nat} {x : Ent} (hx : l[k]? = some x) :
    ∃ b o, A = some ⟨b, o, none⟩ ∧ w.cell? ⟨b, o + k * 8 + 2, none⟩ = some (.int .i64 x.n) ∧ w.cell? ⟨b, o + k * 8 + 7, none⟩ = some (.int .i64 x.ba) := by
  have hk : k < l.length := (List.getElem?_eq_some_iff.1 hx).1
  obtain ⟨b, o, e, hc⟩ := hr (by intro e; have := flat_len l; rw [e] at this; simp at this; omega)
  have g : ∀ j, j < 8 → (flat l)[k * 8 + j]? = x.cs[j]? := fun j hj => by
    have h := flat_get l (k * 8 + j) x (by rw [show (k * 8 + j) / 8 = k by omega]; exact hx)
    rw [h, show (k * 8 + j) % 8 = j by omega]
  refine ⟨b, o, e, ?_, ?_⟩
  · have := hc _ _ ((g 2 (by omega)).trans rfl)
    rw [Nat.add_assoc]; exact this
  · have := hc _ _ ((g 7 (by omega)).trans rfl)
    rw [Nat.add_assoc]; exact this

def RoomREnd (frm to n : Int) (l : List Ent) (w : World) (e : Ending) (w' : World) : Prop :=
  (((n < 1 ∨ frm < 0 ∨ to < frm) ∧ e = .returned (.tuple #[.int .i64 0, .bool false])) ∨
  (¬ (n < 1 ∨ frm < 0 ∨ to < frm) ∧ ((∃ a : Int, frm ≤ a ∧ n ≤ to - a ∧ Free n a l ∧ (∀ a', frm ≤ a' → a' < a → ¬ Free n a' l) ∧ e = .returned (.tuple #[.int .i64 a, .bool true])) ∨
    ((∀ a, frm ≤ a → n ≤ to - a → ¬ Free n a l) ∧ e = .returned (.tuple #[.int .i64 0, .bool false]))))) ∧ Below w.heap.size w w'

set_option maxRecDepth 20000 in
set_option maxHeartbeats 8000000 in
theorem roomR_any (frm to n : Int) (l : List Ent) (A : Option Addr) (m c : Nat) (hm : l.length = m) (hl : m ≤ 1000) (hto : to ≤ 2000) (w : World) (hr : Rd w A (flat l)) :
    Calls Try.prog 13 #[.int .i64 frm, .int .i64 to, .int .i64 n, .slice A m c] w (fun e w' => RoomREnd frm to n l w e w') := by
  have Hm := Lib.hid hm
  clear hm
  by_cases c1 : n < 1
  · go_enter Try.func13, Try.ntmps13
    go_wp2_with fail
    go_ret2
    exact ⟨.inl ⟨.inl c1, rfl⟩, Below.refl _ _⟩
  by_cases c2 : frm < 0
  · go_enter Try.func13, Try.ntmps13
    go_wp2_with fail
    go_ret2
    exact ⟨.inl ⟨.inr (.inl c2), rfl⟩, Below.refl _ _⟩
  by_cases c3 : to < frm
  · go_enter Try.func13, Try.ntmps13
    go_wp2_with fail
    go_ret2
    exact ⟨.inl ⟨.inr (.inr c3), rfl⟩, Below.refl _ _⟩
  have HC := Lib.hid (show ¬ (n < 1 ∨ frm < 0 ∨ to < frm) by omega)
  go_enter Try.func13, Try.ntmps13
  go_wp2_with fail
  go_loopw [10, 11, 12] (fun v _ _ wr => ∃ a : Int, frm ≤ a ∧ a ≤ 2001 ∧ v = .int .i64 a ∧ Hid (∀ a', frm ≤ a' → a' < a → ¬ Free n a' l) ∧ Below w.heap.size w wr) (fun v _ _ _ => (2001 - intOf v).toNat)
  case atStart => exact ⟨frm, by omega, by omega, rfl, Lib.hid (fun a' h1 h2 => by omega), Below.refl _ _⟩
  case round =>
    obtain ⟨a, ha1, ha2, rfl, hF, hb⟩ := hrel
    by_cases c4 : n ≤ to - a
    · go_upto_if 29 with (fail)
      go_wp2_with fail
      go_loopw [11, 12] (fun f i wx => ∃ k : Nat, k ≤ m ∧ i = .int .i64 k ∧ f = .bool (freeB n a (l.take k)) ∧ Below w.heap.size w wx) (fun _ i _ => m - (intOf i).toNat)
      case atStart => exact ⟨0, by omega, rfl, rfl, hb⟩
      case round =>
        obtain ⟨k, hk, rfl, rfl, hbx⟩ := hrel
        rename_i wx
        by_cases hkm : k < m
        · obtain ⟨x, hx⟩ : ∃ x, l[k]? = some x := ⟨_, List.getElem?_eq_getElem (by rw [Hm.out]; exact hkm)⟩
          have hT := freeB_take (n := n) (a := a) hx
          have hrx := hr.below (hbx.mono (Nat.le_refl _))
          obtain ⟨b, o, rfl, q2, q7⟩ := rd_cells hrx hx
          obtain ⟨id, sa, nn, bs, raw, ro, ta, ba, ⟨b0, b1⟩, ⟨n0, n1⟩⟩ := x
          dsimp only at hT q2 q7
          obtain ⟨f, hf⟩ : ∃ f, freeB n a (l.take k) = f := ⟨_, rfl⟩
          rw [hf] at hT ⊢
          have HT := Lib.hid hT
          clear hT hf hx hrx
          by_cases d1 : a < ba + nn
          · by_cases d2 : ba - a < n
            · have H := Lib.hid (show freeB n a (l.take (k + 1)) = false by rw [HT.out, decide_eq_true d1, decide_eq_true d2]; simp)
              go_upto_region 10 with (fail)
              go_quiet (fail)
              go_wp2_with fail
              go_roundw
              case rel => exact ⟨k + 1, by omega, rfl, by rw [H.out], below_drewN hbx _⟩
              case measure => simp [intOf]; omega
            · have H := Lib.hid (show freeB n a (l.take (k + 1)) = f by rw [HT.out, decide_eq_true d1, decide_eq_false d2]; simp)
              go_upto_region 10 with (fail)
              go_quiet (fail)
              go_wp2_with fail
              go_roundw
              case rel => exact ⟨k + 1, by omega, rfl, by rw [H.out], below_drewN hbx _⟩
              case measure => simp [intOf]; omega
          · have H := Lib.hid (show freeB n a (l.take (k + 1)) = f by rw [HT.out, decide_eq_false d1]; simp)
            go_upto_region 10 with (fail)
            go_quiet (fail)
            go_wp2_with fail
            go_roundw
            case rel => exact ⟨k + 1, by omega, rfl, by rw [H.out], below_drewN hbx _⟩
            case measure => simp [intOf]; omega
        · obtain rfl : k = m := by omega
          have htk : l.take k = l := List.take_of_length_le (by rw [Hm.out]; exact Nat.le_refl _)
          rw [htk]
          clear htk
          rcases hf : freeB n a l with _ | _
          · have H := Lib.hid (show ¬ Free n a l from fun h => by rw [(freeB_iff n a l).2 h] at hf; cases hf)
            clear hf
            go_wp2_with fail
            go_roundw
            case rel => exact ⟨a + 1, by omega, by omega, rfl, Lib.hid (fun a' h1 h2 => by
              by_cases e : a' = a
              · rw [e]; exact H.out
              · exact hF.out a' h1 (by omega)), hbx⟩
            case measure => simp [intOf]; omega
          · have H := Lib.hid ((freeB_iff n a l).1 hf)
            clear hf
            go_wp2_with fail
            go_ret2
            exact ⟨.inr ⟨HC.out, .inl ⟨a, ha1, c4, H.out, hF.out, rfl⟩⟩, hbx⟩
    · go_wp2_with fail
      go_ret2
      exact ⟨.inr ⟨HC.out, .inr ⟨fun a' h1 h2 => hF.out a' h1 (by omega), rfl⟩⟩, hb⟩
end Go.Proofs.Ytachmdfabnigpaa
