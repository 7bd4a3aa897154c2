/-
  The law CatalogRooms: the walk.
-/
import Derived.Test.YtachmdfabnigpaaCatO
namespace Go.Proofs.Ytachmdfabnigpaa
open Go.RowKit Go.Sort

set_option maxRecDepth 20000 in
set_option maxHeartbeats 8000000 in
theorem catalogRooms_in (frm to n : Int) (A : Option Addr) (m c : Nat) (w : World) (hm : m ≤ 9223372036854775807) (hE : ExtsIn w A m) :
    Calls Try.prog 4 #[.int .i64 frm, .int .i64 to, .int .i64 n, .slice A m c] w (Yes w) := by
  have H0 := Lib.hid (fun w hE => few_any A m c hm w hE)
  have HE := Lib.hid hE
  clear hE hm
  have hT : ∃ T : Int, T ≤ 2000 ∧ ((to > 2000 ∧ T = 2000) ∨ (¬ to > 2000 ∧ T = to)) := by
    by_cases h : to > 2000
    · exact ⟨2000, by omega, .inl ⟨h, rfl⟩⟩
    · exact ⟨to, by omega, .inr ⟨h, rfl⟩⟩
  obtain ⟨T, hT, hto⟩ := hT
  rcases hto with ⟨ht, rfl⟩ | ⟨ht, rfl⟩
  all_goals
    go_enter Try.func4, Try.ntmps4
    go_wp2_with fail
    refine (H0.out w HE.out).mono ?_
    rintro e w1 ⟨L, A1, c1, rfl, hL, hr, hb⟩
    go_wp2_with fail
    refine (room_all _ _ _ L A1 _ c1 rfl (by omega) hT w1 hr).mono ?_
    intro e w2 hRoom
    obtain ⟨a, ok, rfl, hb2, hsame, hok⟩ := rooms_same hRoom
    have Hsame := Lib.hid hsame
    have Hok := Lib.hid hok
    have hr2 := hr.below hb2
    have hB2 := bl hb hb2
    clear hRoom hsame hok hr hb hb2
    go_wp2_with fail
    refine (roomR_any _ _ _ L A1 _ c1 rfl (by omega) hT w2 hr2).mono ?_
    intro e w3 hRR
    obtain ⟨rfl, hb3⟩ := Hsame.out _ _ _ hRR
    have hr3 := hr2.below hb3
    have hB3 := bl hB2 hb3
    clear hRR hr2 hb3 hB2 Hsame
    cases ok with
    | false =>
      go_wp2_with fail
      go_loopw [13] (fun i wr => i = .int .i64 0 ∧ Below w.heap.size w wr) (fun _ _ => 0)
      case atStart => exact ⟨rfl, hB3⟩
      case round =>
        obtain ⟨rfl, hb⟩ := hrel
        by_cases h0 : (0 : Int) < (L.length : Int)
        · go_wp2_with fail
          refine (awake_any _).mono ?_
          rintro e w4 ⟨rfl, hb4⟩
          go_wp2_with fail
          go_ret
          exact ⟨rfl, below_then hb hb4 hb.size⟩
        · go_wp2_with fail
          refine (awake_any _).mono ?_
          rintro e w4 ⟨rfl, hb4⟩
          go_wp2_with fail
          go_ret
          exact ⟨rfl, below_then hb hb4 hb.size⟩
    | true =>
      obtain ⟨o1, o2, o3, o4, o5⟩ := Hok.out rfl
      have HF := Lib.hid o5
      clear Hok o5
      go_wp2_with fail
      go_loopw [13] (fun i wr => ∃ k : Nat, k ≤ L.length ∧ i = .int .i64 k ∧ Below w.heap.size w wr ∧ Rd wr A1 (flat L)) (fun i _ => L.length - (intOf i).toNat)
      case atStart => exact ⟨0, by omega, rfl, hB3, hr3⟩
      case round =>
        obtain ⟨k, hk, rfl, hb, hrx⟩ := hrel
        by_cases hkm : k < L.length
        · obtain ⟨x, hx⟩ : ∃ x, L[k]? = some x := ⟨_, List.getElem?_eq_getElem hkm⟩
          obtain ⟨b, o, rfl, q2, q7⟩ := rd_cells hrx hx
          have hfx := HF.out x (List.mem_of_getElem? hx)
          obtain ⟨id, sa, nn, bs, raw, ro, ta, ba, ⟨b0, b1⟩, ⟨n0, n1⟩⟩ := x
          dsimp only at hfx q2 q7
          clear hx hr3
          by_cases d1 : a < ba + nn
          · have d2 : ¬ (ba < a + n) := fun h => hfx ⟨d1, by omega⟩
            clear hfx
            go_upto_region 11 with (fail)
            go_quiet (fail)
            go_wp2_with fail
            go_roundw
            case rel => exact ⟨k + 1, by omega, rfl, below_drewN hb _, hrx.below (below_drewN (Below.refl _ _) _)⟩
            case measure => simp [intOf]; omega
          · clear hfx
            go_upto_region 11 with (fail)
            go_quiet (fail)
            go_wp2_with fail
            go_roundw
            case rel => exact ⟨k + 1, by omega, rfl, below_drewN hb _, hrx.below (below_drewN (Below.refl _ _) _)⟩
            case measure => simp [intOf]; omega
        · obtain rfl : k = L.length := by omega
          go_wp2_with fail
          refine (awake_any _).mono ?_
          rintro e w4 ⟨rfl, hb4⟩
          go_wp2_with fail
          go_ret
          exact ⟨rfl, below_then hb hb4 hb.size⟩
theorem catalogRooms_walk (frm to n : Int) (A : Option Addr) (m c : Nat) (w : World) (_l0 : -9223372036854775808 ≤ frm) (_u0 : frm ≤ 9223372036854775807) (_l1 : -9223372036854775808 ≤ to) (_u1 : to ≤ 9223372036854775807) (_l2 : -9223372036854775808 ≤ n) (_u2 : n ≤ 9223372036854775807) (hm : m ≤ 9223372036854775807) (hE : ExtsIn w A m) :
    Calls Try.prog 4 #[.int .i64 frm, .int .i64 to, .int .i64 n, .slice A m c] w (Yes w) := catalogRooms_in frm to n A m c w hm hE
end Go.Proofs.Ytachmdfabnigpaa
