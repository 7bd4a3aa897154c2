/-
  The law's 'some': not too many deeds.
-/
import Derived.Test.YtbblmjpjcabfpaaDdA
import Derived.Test.YtbblmjpjcabfpaaProg
import Derived.Lib.Hide
namespace Go.Proofs.Ytbblmjpjcabfpaa
open Go.RowKit

theorem el_deed : El Try.prog 22 32 3 32 := El.mk_ (z := .agg #[.int .i64 0, .int .i64 0, .string ⟨#[]⟩]) Try.underlying22 (by kernel_rfl) (by decide) (by rfl)

set_option maxRecDepth 20000 in
set_option maxHeartbeats 4000000 in
theorem some_any (l : List Dd) (A : Option Addr) (n c : Nat) (hn : l.length = n) (hok : ∀ x ∈ l, x.ok) (w : World) (hr : Rd w A (dl l)) (hc : n ≤ 9223372036854775807) :
    Calls Try.prog 9 #[.slice A n c] w (RetS w (fewD l).length (dl (fewD l))) := by
  have Hn := Lib.hid hn
  have HO := Lib.hid hok
  clear hn hok
  go_enter Try.func9, Try.ntmps9
  go_wp2_with fail
  go_loopw [3, 4] (fun v vi wr => ∃ i : Nat, vi = .int .i64 i ∧ i ≤ n ∧ i ≤ 60 ∧ Hid (wr.ownsRow w.heap.size 32 3 v i (dl ((l.take i).map Dd.cut))) ∧ Hid (Below w.heap.size w wr)) (fun _ vi _ => n - (intOf vi).toNat)
  case atStart => exact ⟨0, rfl, by omega, by omega, Lib.hid (by simp [dl]; exact World.ownsRow_nil _ _ _ _), Lib.hid (Below.refl _ _)⟩
  case round =>
    obtain ⟨i, rfl, hi, hi6, HW, HB⟩ := hrel
    by_cases hlt : i < n
    · by_cases h60 : i < 60
      · have hl1 : (i : Int) < (n : Int) := by omega
        have hl2 : (i : Int) < 60 := by omega
        have hil : i < l.length := by rw [Hn.out]; exact hlt
        obtain ⟨x, hx⟩ : ∃ x, l[i]? = some x := ⟨_, List.getElem?_eq_getElem hil⟩
        have HX := Lib.hid hx
        obtain ⟨b, o, rfl, q0, q1, q2⟩ := (hr.below HB.out).deed hx
        obtain ⟨xk, xi, xs⟩ := x
        simp only at q0 q1 q2
        have hbw := HB.out.size
        have HQ : Hid (∀ xs' : ByteArray, (⟨xk, xi, xs'⟩ : Dd) = Dd.cut ⟨xk, xi, xs⟩ → (l.take (i + 1)).map Dd.cut = (l.take i).map Dd.cut ++ [⟨xk, xi, xs'⟩]) := Lib.hid fun xs' h => by
          rw [List.take_add_one, hx, List.map_append, h]; rfl
        have HBW := Lib.hid hbw
        clear hx hil hr hbw
        by_cases hbig : 300 < xs.size
        · have hb1 : (300 : Int) < (xs.size : Int) := by omega
          have HE := Lib.hid (show (⟨xk, xi, xs.extract 0 300⟩ : Dd) = Dd.cut ⟨xk, xi, xs⟩ by unfold Dd.cut; rw [if_pos hbig])
          generalize hxs' : xs.extract 0 300 = xs' at HE
          clear hbig
          go_wp2_with (at_builtin; refine wpList_append_new (wr.alloc (.cells #[.int .i64 xk, .int .i64 xi, .string xs'] 32)) rfl (.tmp 28) (.tmp 30) 22 rfl w.heap.size 32 3 32 el_deed _ i _ (HW.out.alloc _) rfl #[.int .i64 xk, .int .i64 xi, .string xs'] (by simp [Act.eval]) rfl (by intro u hu; simp at hu; rcases hu with rfl | rfl | rfl <;> rfl) (by unfold maxLen; omega) (by omega) (by simp; have := HBW.out; omega) ?_; intro v2 w2 hown2 hb2)
          go_roundw
          case rel =>
            refine ⟨i + 1, congrArg _ (by omega), by omega, by omega, Lib.hid ?_, Lib.hid ?_⟩
            · rw [HQ.out _ HE.out, dl_app]
              exact hown2
            · exact HB.out.trans (((Below.refl _ wr).alloc (Nat.le_refl _) _).mono HBW.out |>.trans hb2)
          case measure => simp [intOf]; omega
        · have hb1 : ¬ (300 : Int) < (xs.size : Int) := by omega
          have HE := Lib.hid (show (⟨xk, xi, xs⟩ : Dd) = Dd.cut ⟨xk, xi, xs⟩ by unfold Dd.cut; rw [if_neg hbig])
          clear hbig
          go_wp2_with (at_builtin; refine wpList_append_new (wr.alloc (.cells #[.int .i64 xk, .int .i64 xi, .string xs] 32)) rfl (.tmp 28) (.tmp 30) 22 rfl w.heap.size 32 3 32 el_deed _ i _ (HW.out.alloc _) rfl #[.int .i64 xk, .int .i64 xi, .string xs] (by simp [Act.eval]) rfl (by intro u hu; simp at hu; rcases hu with rfl | rfl | rfl <;> rfl) (by unfold maxLen; omega) (by omega) (by simp; have := HBW.out; omega) ?_; intro v2 w2 hown2 hb2)
          go_roundw
          case rel =>
            refine ⟨i + 1, congrArg _ (by omega), by omega, by omega, Lib.hid ?_, Lib.hid ?_⟩
            · rw [HQ.out _ HE.out, dl_app]
              exact hown2
            · exact HB.out.trans (((Below.refl _ wr).alloc (Nat.le_refl _) _).mono HBW.out |>.trans hb2)
          case measure => simp [intOf]; omega
      · have hl1 : (i : Int) < (n : Int) := by omega
        have hl2 : ¬ (i : Int) < 60 := by omega
        go_wp2_with fail
        go_ret
        have h1 := HW.out
        rw [show (l.take i).map Dd.cut = fewD l by unfold fewD; rw [show i = 60 by omega]] at h1
        have h2 : (fewD l).length = i := by unfold fewD; rw [List.length_map, List.length_take, Hn.out]; omega
        rw [h2]
        exact RetS.own h1 HB.out (Nat.le_refl _)
    · have hl1 : ¬ (i : Int) < (n : Int) := by omega
      go_wp2_with fail
      go_ret
      have h1 := HW.out
      have h3 : l.take i = l.take 60 := by rw [List.take_of_length_le (by rw [Hn.out]; omega), List.take_of_length_le (by rw [Hn.out]; omega)]
      rw [show (l.take i).map Dd.cut = fewD l by unfold fewD; rw [h3]] at h1
      have h2 : (fewD l).length = i := by unfold fewD; rw [List.length_map, List.length_take, Hn.out]; omega
      rw [h2]
      exact RetS.own h1 HB.out (Nat.le_refl _)
end Go.Proofs.Ytbblmjpjcabfpaa
