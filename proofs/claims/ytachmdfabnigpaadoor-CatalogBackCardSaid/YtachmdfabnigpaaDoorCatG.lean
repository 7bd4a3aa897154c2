/-
  Entries in a row: the walk of catalog.Room.
-/
import Derived.Test.YtachmdfabnigpaaDoorCatF
namespace Go.Proofs.YtachmdfabnigpaaDoor
open Go.RowKit Go.Sort

/-- What Room comes to. -/
def RoomEnd (frm to n : Int) (l : List Ent) (w : World) (e : Ending) (w' : World) : Prop :=
  ((n < 1 ∨ frm < 0 ∨ to < frm) ∧ e = .returned (.tuple #[.int .i64 0, .bool false]) ∧ Below w.heap.size w w') ∨
  (¬ (n < 1 ∨ frm < 0 ∨ to < frm) ∧ ∃ l' : List Ent, l'.Perm l ∧ (l'.Pairwise fun x y => x.ba ≤ y.ba) ∧
    ((to - roomA n frm l' < n ∧ e = .returned (.tuple #[.int .i64 0, .bool false])) ∨ (¬ (to - roomA n frm l' < n) ∧ e = .returned (.tuple #[.int .i64 (roomA n frm l'), .bool true]))) ∧ Below w.heap.size w w')
theorem roomA_drop {n : Int} {l : List Ent} {k : Nat} {x : Ent} (hx : l[k]? = some x) (a : Int) : roomA n a (l.drop k) = if n ≤ x.ba - a then a else roomA n (max a (x.ba + x.n)) (l.drop (k + 1)) := by
  obtain ⟨h, rfl⟩ := List.getElem?_eq_some_iff.1 hx
  rw [List.drop_eq_getElem_cons h]
  rfl

set_option maxRecDepth 20000 in
set_option maxHeartbeats 4000000 in
theorem room_any (frm to n : Int) (l : List Ent) (A : Option Addr) (m c : Nat) (hm : l.length = m) (h1 : 1 ≤ m) (hl : m ≤ 1000) (hto : to ≤ 2000) (w : World) (hr : Rd w A (flat l)) :
    Calls Tryd.prog 20 #[.int .i64 frm, .int .i64 to, .int .i64 n, .slice A m c] w (RoomEnd frm to n l w) := by
  have Hm := Lib.hid hm
  clear hm
  by_cases c1 : n < 1
  · go_enter Tryd.func20, Tryd.ntmps20
    go_wp2_with fail
    go_ret2
    exact .inl ⟨.inl c1, rfl, Below.refl _ _⟩
  by_cases c2 : frm < 0
  · go_enter Tryd.func20, Tryd.ntmps20
    go_wp2_with fail
    go_ret2
    exact .inl ⟨.inr (.inl c2), rfl, Below.refl _ _⟩
  by_cases c3 : to < frm
  · go_enter Tryd.func20, Tryd.ntmps20
    go_wp2_with fail
    go_ret2
    exact .inl ⟨.inr (.inr c3), rfl, Below.refl _ _⟩
  have HC := Lib.hid (show ¬ (n < 1 ∨ frm < 0 ∨ to < frm) by omega)
  go_enter Tryd.func20, Tryd.ntmps20
  go_wp2_with fail
  (with_reducible refine (clone_any l A m c Hm.out hl w hr).mono ?_)
  rintro e w1 ⟨A1, cc, rfl, hE, hb1⟩
  obtain ⟨g, rfl, hg, hE1⟩ := hE (by intro e; have := Hm.out; rw [e] at this; simp at this; omega)
  clear hE hr
  go_wp2_with fail
  (with_reducible refine (sort_any l g cc w.heap.size w1 (by have := Hm.out; omega) hE1 hg).mono ?_)
  rintro e w2 ⟨rfl, l', hp, hs, hE2, hb2⟩
  have hb3 := hb1.trans hb2
  have hlen : l'.length = l.length := hp.length_eq
  have HL := Lib.hid (hlen.trans Hm.out)
  have HS := Lib.hid (And.intro hp hs)
  rw [Hm.out]
  clear hE1 hb1 hb2 hp hs hlen
  go_wp2_with fail
  go_loopw [11, 13, 32] (fun v _ i wr => ∃ (k : Nat) (a : Int), k ≤ m ∧ 0 ≤ a ∧ a ≤ 4000 ∧ v = .int .i64 a ∧ i = .int .i64 k ∧ Hid (roomA n frm l' = roomA n a (l'.drop k)) ∧ Ents wr g l' ∧ Below w.heap.size w wr) (fun _ _ i _ => m - (intOf i).toNat)
  case atStart => exact ⟨0, frm, by omega, by omega, by omega, rfl, rfl, Lib.hid rfl, hE2, hb3⟩
  case round =>
    obtain ⟨k, a, hk, ha, ha2, rfl, rfl, hR, hE, hb⟩ := hrel
    by_cases hkm : k < m
    · obtain ⟨x, hx⟩ : ∃ x, l'[k]? = some x := ⟨_, List.getElem?_eq_getElem (by rw [HL.out]; exact hkm)⟩
      have hd := roomA_drop (n := n) hx a
      obtain ⟨q0, q1, q2, q3, q4, q5, q6, q7⟩ := hE.cells hx
      obtain ⟨id, sa, nn, bs, raw, ro, ta, ba, ⟨b0, b1⟩, ⟨n0, n1⟩⟩ := x
      dsimp only at hd q0 q1 q2 q3 q4 q5 q6 q7
      have Hd := Lib.hid hd
      clear hd hx
      by_cases hc : n ≤ ba - a
      · have Ha := Lib.hid (show roomA n frm l' = a by rw [hR.out, Hd.out, if_pos hc])
        by_cases hn : n > to - a
        · go_wp2_with fail
          go_ret2
          exact .inr ⟨HC.out, l', HS.out.1, HS.out.2, .inl ⟨by rw [Ha.out]; omega, rfl⟩, hb.alloc hb.size _⟩
        · go_wp2_with fail
          go_ret2
          exact .inr ⟨HC.out, l', HS.out.1, HS.out.2, .inr ⟨by rw [Ha.out]; omega, by rw [Ha.out]; rfl⟩, hb.alloc hb.size _⟩
      · have Ha := Lib.hid (show roomA n frm l' = roomA n (max a (ba + nn)) (l'.drop (k + 1)) by rw [hR.out, Hd.out, if_neg hc])
        go_wp2_with fail
        go_round
        case rel => exact ⟨k + 1, max a (ba + nn), by omega, by omega, by omega, rfl, rfl, Ha, hE.below ((Below.refl _ _).alloc (Nat.le_refl _) _), hb.alloc hb.size _⟩
        case measure => simp [intOf]; omega
    · obtain rfl : k = m := by omega
      have Ha := Lib.hid (show roomA n frm l' = a by rw [hR.out, List.drop_eq_nil_of_le (by rw [HL.out]; exact Nat.le_refl _)]; rfl)
      by_cases hn : n > to - a
      · go_wp2_with fail
        go_ret2
        exact .inr ⟨HC.out, l', HS.out.1, HS.out.2, .inl ⟨by rw [Ha.out]; omega, rfl⟩, hb⟩
      · go_wp2_with fail
        go_ret2
        exact .inr ⟨HC.out, l', HS.out.1, HS.out.2, .inr ⟨by rw [Ha.out]; omega, by rw [Ha.out]; rfl⟩, hb⟩
end Go.Proofs.YtachmdfabnigpaaDoor
