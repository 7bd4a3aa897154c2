/-
  Chapter 12's example (awake); the law FilemapPuts: the walk.
-/
import Derived.Test.YtbgnbkomckbckaaFmS
namespace Go.Proofs.Ytbgnbkomckbckaa
open Go.RowKit

def aw : List Fl := [(⟨#[98]⟩, ⟨#[120]⟩), (⟨#[97]⟩, ⟨#[]⟩)]
theorem b98 : (⟨#[98]⟩ : ByteArray).toList = [98] := toList_ofL [98]
theorem b97 : (⟨#[97]⟩ : ByteArray).toList = [97] := toList_ofL [97]
theorem b120 : (⟨#[120]⟩ : ByteArray).toList = [120] := toList_ofL [120]
theorem b0 : (⟨#[]⟩ : ByteArray).toList = [] := toList_ofL []
theorem aw_check : checkF aw = 0 := by
  have p1 : okP ⟨#[98]⟩ = 0 := by unfold okP; rw [b98]; decide
  have p2 : okP ⟨#[97]⟩ = 0 := by unfold okP; rw [b97]; decide
  have hne : (⟨#[98]⟩ : ByteArray) ≠ ⟨#[97]⟩ := fun e => by have := congrArg ByteArray.toList e; rw [b98, b97] at this; cases this
  have u1 : und (⟨#[98]⟩ : ByteArray).toList (⟨#[97]⟩ : ByteArray).toList = false := by rw [b98, b97]; decide
  have u2 : und (⟨#[97]⟩ : ByteArray).toList (⟨#[98]⟩ : ByteArray).toList = false := by rw [b98, b97]; decide
  have c1 : chk1 aw = 0 := by
    unfold aw
    rw [chk1, if_pos p1, if_neg (by decide), chk1, if_pos p2, if_neg (by decide)]
    rfl
  have c2 : clashAny aw = false := by
    unfold aw
    simp only [clashAny, List.any_cons, List.any_nil, two, bad, u1, u2, decide_eq_false hne, decide_eq_false hne.symm, Bool.or_false]
  unfold checkF
  rw [if_neg (by decide), if_pos c1, c2]
  rfl
theorem aw_sort : sortF aw = [(⟨#[97]⟩, ⟨#[]⟩), (⟨#[98]⟩, ⟨#[120]⟩)] := by
  have hlt : ltF (⟨#[97]⟩, ⟨#[]⟩) (⟨#[98]⟩, ⟨#[120]⟩) := by unfold ltF; rw [b98, b97]; decide
  show insF (⟨#[97]⟩, ⟨#[]⟩) (insF (⟨#[98]⟩, ⟨#[120]⟩) []) = _
  rw [insF, insF, if_pos hlt]
theorem aw_put : putS aw = ⟨#[2, 1, 97, 0, 1, 98, 1, 120]⟩ := by
  unfold putS
  rw [if_pos aw_check]
  refine str_eq ?_
  rw [toList_ofL, show (⟨#[2, 1, 97, 0, 1, 98, 1, 120]⟩ : ByteArray).toList = [2, 1, 97, 0, 1, 98, 1, 120] from toList_ofL _]
  unfold putF putL
  rw [aw_sort]
  simp only [List.flatMap_cons, List.flatMap_nil, b97, b98, b120, b0]
  decide
theorem aw_small : ∀ x ∈ aw, x.1.size ≤ 100000000 ∧ x.2.size ≤ 100000000 := fun x hx => by
  unfold aw at hx
  simp only [List.mem_cons, List.not_mem_nil, or_false] at hx
  rcases hx with rfl | rfl
  · exact ⟨by decide, by decide⟩
  · exact ⟨by decide, by decide⟩
set_option maxRecDepth 20000 in
theorem awakeF_any (w : World) : Calls Try.prog 13 #[] w fun e w' => e = .returned (.bool true) ∧ Below w.heap.size w w' := by
  have hr : Rd (w.alloc (.cells #[.string ⟨#[98]⟩, .string ⟨#[120]⟩, .string ⟨#[97]⟩, .string ⟨#[]⟩] 41)) (some ⟨w.heap.size, 0, none⟩) (fl aw) := Rd.new w 41 #[.string ⟨#[98]⟩, .string ⟨#[120]⟩, .string ⟨#[97]⟩, .string ⟨#[]⟩]
  have hb := (Below.refl w.heap.size w).alloc (Nat.le_refl _) (.cells #[.string ⟨#[98]⟩, .string ⟨#[120]⟩, .string ⟨#[97]⟩, .string ⟨#[]⟩] 41)
  have hq := put_any' aw (some ⟨w.heap.size, 0, none⟩) 2 2 0 ⟨#[2, 1, 97, 0, 1, 98, 1, 120]⟩ aw_check aw_put rfl (by omega) (by omega) aw_small _ hr
  have HP := Lib.hid hq
  clear hq hr
  go_enter Try.func13, Try.ntmps13
  go_wp2_with fail
  refine HP.out.mono ?_
  rintro e w1 ⟨rfl, hb1⟩
  go_wp2_with fail
  go_ret
  exact ⟨rfl, bl hb hb1⟩
theorem small_sz {l : List Fl} (h : Small l) : l.length ≤ 1000 ∧ ∀ x ∈ l, x.1.size ≤ 100000000 ∧ x.2.size ≤ 100000000 := ⟨by have := h.1; omega, fun x hx => by have := h.2 x hx; omega⟩

set_option maxRecDepth 20000 in
set_option maxHeartbeats 2000000 in
theorem filemapPuts_walk (A : Option Addr) (n c : Nat) (l : List Fl) (w : World) (hn : l.length = n) (hc : n ≤ c) (_hm : c ≤ 9223372036854775807) (hr : Rd w A (fl l)) :
    Calls Try.prog 3 #[.slice A n c] w (Yes w) := by
  have Hn := Lib.hid hn
  clear hn
  go_enter Try.func3, Try.ntmps3
  go_wp2_with fail
  (with_reducible refine (few_any l A n c Hn.out hc _ hr).mono ?_)
  rintro e w1 ⟨k, hk, hsm, rfl, hb1⟩
  have hr1 := (hr.takeF k).below hb1
  have HL := Lib.hid (show (l.take k).length = k by rw [List.length_take, Hn.out]; omega)
  obtain ⟨h1, h2⟩ := small_sz hsm
  have HSM := Lib.hid h2
  have hk1 : k ≤ 1000 := by have := HL.out; omega
  have hkc : k ≤ c := by omega
  generalize l.take k = m at *
  clear hr hsm h1 h2
  obtain ⟨ke, hke⟩ : ∃ ke, checkF m = ke := ⟨_, rfl⟩
  obtain ⟨s, hs⟩ : ∃ s, putS m = s := ⟨_, rfl⟩
  have HK := Lib.hid hke
  have HS := Lib.hid hs
  clear hke hs
  go_wp2_with fail
  (with_reducible refine (put_any' m A k c ke s HK.out HS.out HL.out hkc hk1 HSM.out _ hr1).mono ?_)
  rintro e w2 ⟨rfl, hb2⟩
  have hr2 := hr1.below hb2
  have hb3 := bl hb1 hb2
  clear hr1 hb1 hb2
  go_wp2_with fail
  (with_reducible refine (rput_any m A k c ke s HK.out HS.out HL.out hk1 HSM.out _ hr2).mono ?_)
  rintro e w4 ⟨rfl, hb4⟩
  have hr4 := hr2.below hb4
  have hb5 := bl hb3 hb4
  clear hr2 hb3 hb4
  go_wp2_with fail
  (with_reducible refine (fcheck_any m A k c ke HK.out HL.out hkc hk1 HSM.out _ hr4).mono ?_)
  rintro e w6 ⟨rfl, hb6⟩
  have hb7 := bl hb5 hb6
  clear hr4 hb5 hb6
  go_wp2_with fail
  (with_reducible refine (awakeF_any _).mono ?_)
  rintro e w8 ⟨rfl, hb8⟩
  go_wp2_with fail
  go_ret
  exact ⟨rfl, bl hb7 hb8⟩
end Go.Proofs.Ytbgnbkomckbckaa
