/-
  The walks of the laws PacketOnly and PacketBack.
-/
import Derived.Test.YtfkbcmmhpopdnaaPktW
namespace Go.Proofs.Ytfkbcmmhpopdnaa
open Go.RowKit

/-- A packet that is taken as it was. -/
def TkIs (kind fr seq id i n : Int) (text : ByteArray) (P : List ByteArray) (pn : Nat) (w : World) (e : Ending) (w' : World) : Prop :=
  ∃ (A : Option Addr) (pc : Nat), e = .returned (.tuple #[.agg #[.int .i64 kind, .int .i64 fr, .int .i64 seq, .int .i64 id, .int .i64 i, .int .i64 n, .string text, .slice A pn pc], .int .i64 0]) ∧ pn ≤ pc ∧ Rd w' A (P.map Value.string) ∧ Below w.heap.size w w'
theorem take_is (kind fr seq id i n : Int) (text : ByteArray) (P : List ByteArray) (pn : Nat) (S : ByteArray) (w : World) (hok : pktOk kind fr seq id i n text P = true) (hS : pktS kind fr seq id i n text P = S) (hP : P.length = pn) (hs : S.size ≤ 1000) :
    Calls Try.prog 12 #[.string S] w (TkIs kind fr seq id i n text P pn w) := by
  refine (ptake_any S w hs).mono ?_
  rintro e w' (⟨k', fr', sq', id', i', n', x', A, pn', pc, P', h1, h2, h3, h4, h5, h6, h7, rfl, h8⟩ | ⟨h1, rfl, h8⟩)
  · obtain ⟨q0, q1, q2, q3, q4, q5, q6, q7⟩ := pkt_inj hok h1 (by rw [h2, hS])
    subst q0; subst q1; subst q2; subst q3; subst q4; subst q5; subst q6; subst q7; subst hP; subst h4
    exact ⟨A, pc, rfl, h5, h7, h8⟩
  · exact absurd hS (h1 _ _ _ _ _ _ _ _ hok)
theorem take_no (S : ByteArray) (w : World) (hno : ∀ (kind fr seq id i n : Int) (text : ByteArray) (P : List ByteArray), pktOk kind fr seq id i n text P = true → ¬ pktS kind fr seq id i n text P = S) (hs : S.size ≤ 1000) :
    Calls Try.prog 12 #[.string S] w fun e w' => e = .returned (.tuple #[.agg #[.int .i64 0, .int .i64 0, .int .i64 0, .int .i64 0, .int .i64 0, .int .i64 0, .string ⟨#[]⟩, .slice none 0 0], .int .i64 2]) ∧ Below w.heap.size w w' := by
  refine (ptake_any S w hs).mono ?_
  rintro e w' (⟨k', fr', sq', id', i', n', x', A, pn', pc, P', h1, h2, _⟩ | ⟨h1, rfl, h8⟩)
  · exact absurd h2 (hno _ _ _ _ _ _ _ _ h1)
  · exact ⟨rfl, h8⟩

set_option maxRecDepth 20000 in
set_option maxHeartbeats 8000000 in
theorem packetOnly_in (c : ByteArray) (hc : c.size ≤ 1000) (s : ByteArray) (w : World) (hs : (1000 < s.size ∧ s.extract 0 1000 = c) ∨ (s.size ≤ 1000 ∧ s = c)) :
    Calls Try.prog 6 #[.string s] w (Yes w) := by
  have H0 := Lib.hid (ptake_any c · hc)
  have hi : (((1000 : Int) < (s.size : Int)) ∧ s.extract 0 1000 = c) ∨ (¬ ((1000 : Int) < (s.size : Int)) ∧ s = c) := hs.imp (fun h => ⟨by omega, h.2⟩) (fun h => ⟨by omega, h.2⟩)
  clear hs
  rcases hi with ⟨h1, h2⟩ | ⟨h1, rfl⟩
  all_goals
    go_enter Try.func6, Try.ntmps6
    go_wp2_with fail
    refine (H0.out _).mono ?_
    rintro e w1 (⟨kind, fr, seq, id, i, n, x, A, pn, pc, P, hok, hS, hxs, hP, hpc, hcm, hr, rfl, hb⟩ | ⟨hno, rfl, hb⟩)
    · have Hok := Lib.hid hok
      have HS := Lib.hid hS
      have HP := Lib.hid hP
      have hrA := hr.below ((Below.refl w1.heap.size w1).alloc (Nat.le_refl _) (.cells #[.int .i64 kind, .int .i64 fr, .int .i64 seq, .int .i64 id, .int .i64 i, .int .i64 n, .string x, .slice A pn pc] 24))
      have hbA := hb.alloc hb.size (.cells #[.int .i64 kind, .int .i64 fr, .int .i64 seq, .int .i64 id, .int .i64 i, .int .i64 n, .string x, .slice A pn pc] 24)
      have hG : BkP (w1.alloc (.cells #[.int .i64 kind, .int .i64 fr, .int .i64 seq, .int .i64 id, .int .i64 i, .int .i64 n, .string x, .slice A pn pc] 24)) w1.heap.size kind fr seq id i n x A pn pc := Bk.new _ _ _
      clear hok hS hP hr hb
      go_wp2_with fail
      (with_reducible refine (pput_k kind fr seq id i n x A pn pc P _ HS.out _ Hok.out HP.out hpc hrA (by omega) (by omega)).mono ?_)
      rintro e w3 ⟨rfl, hb3⟩
      have hG3 : BkP w3 w1.heap.size kind fr seq id i n x A pn pc := Bk.below' hG hb3
      have hr3 := hrA.below hb3
      have hB3 := bl hbA hb3
      clear hG hrA hbA hb3
      obtain ⟨g0, g1, g2, g3, g4, g5, g6, g7⟩ := hG3.cells
      go_wp2_with fail
      (with_reducible refine (pcheck_k kind fr seq id i n x A pn pc P true 0 _ Hok.out rfl HP.out hr3 (by omega) (by omega)).mono ?_)
      rintro e w4 ⟨rfl, hb4⟩
      have hB4 := bl hB3 hb4
      clear hG3 hr3 hB3 hb4 g0 g1 g2 g3 g4 g5 g6 g7
      go_wp2_with fail
      (with_reducible refine (awakeK_any _).mono ?_)
      rintro e w6 ⟨rfl, hb6⟩
      go_wp2_with fail
      go_ret
      exact ⟨rfl, bl hB4 hb6⟩
    · have hbA := hb.alloc hb.size (.cells #[.int .i64 0, .int .i64 0, .int .i64 0, .int .i64 0, .int .i64 0, .int .i64 0, .string ⟨#[]⟩, .slice none 0 0] 24)
      clear hno hb
      go_wp2_with fail
      (with_reducible refine (sameK_any 0 0 0 0 0 0 ⟨#[]⟩ none 0 0 none 0 [] _ rfl (Rd.nil _ _) (Rd.nil _ _) (by omega)).mono ?_)
      rintro e w3 ⟨rfl, hb3⟩
      have hB3 := bl hbA hb3
      clear hbA hb3
      go_wp2_with fail
      (with_reducible refine (awakeK_any _).mono ?_)
      rintro e w6 ⟨rfl, hb6⟩
      go_wp2_with fail
      go_ret
      exact ⟨rfl, bl hB3 hb6⟩
theorem packetOnly_walk (s : ByteArray) (w : World) (_hs : s.size ≤ 140737488351232) : Calls Try.prog 6 #[.string s] w (Yes w) := by
  by_cases h : 1000 < s.size
  · exact packetOnly_in (s.extract 0 1000) (by rw [pre_size _ _ (by omega)]; omega) s w (.inl ⟨h, rfl⟩)
  · exact packetOnly_in s (by omega) s w (.inr ⟨by omega, rfl⟩)

theorem conv_one (W : World) (c : Int) (h0 : 0 ≤ c) (h1 : c ≤ 255) : (convert 39 9 (.slice (some ⟨W.heap.size, 0, none⟩) 1 1)).run Try.prog (W.alloc (.cells #[.int .u8 c] 5)) = .ok (.string (ofL [byteOf c])) (W.alloc (.cells #[.int .u8 c] 5)) := by
  refine conv_back _ 39 9 5 ⟨W.heap.size, 0, none⟩ 1 [byteOf c] 1 rfl Try.underlying39 Try.underlying5 Try.underlying9 ?_
  intro j u hj
  match j, hj with
  | 0, hj =>
    simp only [List.map_cons, List.getElem?_cons_zero, Option.some.injEq, byteOf_toNat] at hj
    rw [Int.emod_eq_of_lt h0 (by omega)] at hj
    subst hj
    rw [add_mk, World.cell?_alloc_mark]; rfl
theorem put_no_more {kind fr seq id i n : Int} {text : ByteArray} {P : List ByteArray} {S T : ByteArray} (hok : pktOk kind fr seq id i n text P = true) (hS : pktS kind fr seq id i n text P = S) (c : Int) (hT : S ++ ofL [byteOf c] = T) :
    ∀ (kind fr seq id i n : Int) (text : ByteArray) (P : List ByteArray), pktOk kind fr seq id i n text P = true → ¬ pktS kind fr seq id i n text P = T := fun k f s d i n t P h1 h2 => by
  have := pkt_pre hok h1 [byteOf c] (by rw [h2, ← hT, toList_app, toList_ofL, hS])
  cases this
theorem put_no_less {kind fr seq id i n : Int} {text : ByteArray} {P : List ByteArray} {S T : ByteArray} (hok : pktOk kind fr seq id i n text P = true) (hS : pktS kind fr seq id i n text P = S) (hT : S.extract 0 (S.size - 1) = T) :
    ∀ (kind fr seq id i n : Int) (text : ByteArray) (P : List ByteArray), pktOk kind fr seq id i n text P = true → ¬ pktS kind fr seq id i n text P = T := fun k f s d i n t P h1 h2 => by
  have hz := (pkt_size hok).1
  rw [hS] at hz
  have := pkt_pre h1 hok (S.toList.drop (S.size - 1)) (by rw [h2, hS, ← hT, toList_pre, List.take_append_drop])
  have h3 := congrArg List.length this
  rw [List.length_drop, size_toList] at h3
  simp at h3
  omega
end Go.Proofs.Ytfkbcmmhpopdnaa
