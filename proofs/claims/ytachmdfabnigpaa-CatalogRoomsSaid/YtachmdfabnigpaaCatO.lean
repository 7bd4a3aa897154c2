/-
  The law CatalogRooms: catalog.Room of no entries; the walk.
-/
import Derived.Test.YtachmdfabnigpaaCatN
import Derived.Shelf.SlSortCmp.NoneTotal
namespace Go.Proofs.Ytachmdfabnigpaa
open Go.RowKit Go.Sort

set_option maxRecDepth 20000 in
set_option maxHeartbeats 4000000 in
theorem room0_any (frm to n : Int) (A : Option Addr) (c : Nat) (hto : to ≤ 2000) (w : World) :
    Calls Try.prog 12 #[.int .i64 frm, .int .i64 to, .int .i64 n, .slice A 0 c] w (RoomEnd frm to n [] w) := by
  by_cases c1 : n < 1
  · go_enter Try.func12, Try.ntmps12
    go_wp2_with fail
    go_ret2
    exact .inl ⟨.inl c1, rfl, Below.refl _ _⟩
  by_cases c2 : frm < 0
  · go_enter Try.func12, Try.ntmps12
    go_wp2_with fail
    go_ret2
    exact .inl ⟨.inr (.inl c2), rfl, Below.refl _ _⟩
  by_cases c3 : to < frm
  · go_enter Try.func12, Try.ntmps12
    go_wp2_with fail
    go_ret2
    exact .inl ⟨.inr (.inr c3), rfl, Below.refl _ _⟩
  have HC := Lib.hid (show ¬ (n < 1 ∨ frm < 0 ∨ to < frm) by omega)
  have hcon := fun p cap fv W => AnyF.slices_SortFunc_none Try.sortExt p cap fv W
  change ∀ p cap fv W, Calls Try.prog 24 _ _ _ at hcon
  have Hcon := Lib.hid hcon
  clear hcon
  go_enter Try.func12, Try.ntmps12
  go_wp2_with fail
  (with_reducible refine (clone_any [] A 0 c rfl (by omega) w (by rw [flat_nil]; exact Rd.nil _ _)).mono ?_)
  rintro e w1 ⟨A1, cc, rfl, hE, hb1⟩
  clear hE
  have hz : ([] : List Ent).length = 0 := rfl
  rw [hz]
  clear hz
  go_wp2_with fail
  (with_reducible refine (Hcon.out A1 cc _ w1).mono ?_)
  rintro e w2 ⟨rfl, rfl⟩
  go_wp2_with fail
  refine wp_loop_rounds 1 ?_
  rw [rounds_succ]
  by_cases hn : n > to - frm
  · go_wp2_with fail
    go_ret2
    exact .inr ⟨HC.out, [], List.Perm.refl _, List.Pairwise.nil, .inl ⟨by show to - frm < n; omega, rfl⟩, hb1⟩
  · go_wp2_with fail
    go_ret2
    exact .inr ⟨HC.out, [], List.Perm.refl _, List.Pairwise.nil, .inr ⟨by show ¬ (to - frm < n); omega, rfl⟩, hb1⟩
theorem room_all (frm to n : Int) (l : List Ent) (A : Option Addr) (m c : Nat) (hm : l.length = m) (hl : m ≤ 1000) (hto : to ≤ 2000) (w : World) (hr : Rd w A (flat l)) :
    Calls Try.prog 12 #[.int .i64 frm, .int .i64 to, .int .i64 n, .slice A m c] w (RoomEnd frm to n l w) := by
  rcases Nat.eq_zero_or_pos m with h | h
  · subst h
    obtain rfl := List.eq_nil_of_length_eq_zero hm
    exact room0_any frm to n A c hto w
  · exact room_any frm to n l A m c hm h hl hto w hr
end Go.Proofs.Ytachmdfabnigpaa
