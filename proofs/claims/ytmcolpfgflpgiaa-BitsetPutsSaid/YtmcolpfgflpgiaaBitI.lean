/-
  The walks of the reference's Within and Or.
-/
import Derived.Test.YtmcolpfgflpgiaaBitH
import Derived.Deep.RegionWith
namespace Go.Proofs.Ytmcolpfgflpgiaa
open Go.RowKit

theorem hasRef_val (A : Option Addr) (n c : Nat) (L : List Bool) (k : Nat) (b : Bool) (w : World) (hL : L.length = n) (hn : n ≤ 1000000) (hr : Rd w A (L.map Value.bool)) (hb : L.getD k false = b) :
    Calls Try.prog 15 #[.slice A n c, .int .i64 k] w fun e w' => e = .returned (.bool b) ∧ w = w' := by
  have h := hasRef_any A n c L (k : Nat) w hL hn hr
  rw [show hasB L (k : Nat) = b by unfold hasB; rw [← hb]; simp] at h
  exact h

set_option maxHeartbeats 1000000 in
theorem withinRef_any (A B : Option Addr) (n m c d : Nat) (L M : List Bool) (w : World) (hL : L.length = n) (hM : M.length = m) (hn : n ≤ 1000000) (hm : m ≤ 1000000) (hr : Rd w A (L.map Value.bool)) (hs : Rd w B (M.map Value.bool)) :
    Calls Try.prog 21 #[.slice A n c, .slice B m d] w fun e w' => e = .returned (.bool (wiR L M 0)) ∧ w = w' := by
  have HL := Lib.hid hL
  have HM := Lib.hid hM
  clear hL hM
  obtain ⟨R, hR⟩ : ∃ R, wiR L M 0 = R := ⟨_, rfl⟩
  rw [hR]
  have HR := Lib.hid hR
  clear hR
  go_enter Try.func21, Try.ntmps21
  go_wp2
  go_loop [5] (fun i => ∃ k : Nat, k ≤ n ∧ i = .int .i64 k ∧ Hid (wiR L M k = R)) (fun i => n - (intOf i).toNat)
  case atStart => exact ⟨0, by omega, rfl, HR⟩
  case round =>
    obtain ⟨k, hk, rfl, hw⟩ := hrel
    by_cases hlt : (k : Int) < (n : Int)
    · have hkl : k < L.length := by rw [HL.out]; omega
      obtain ⟨b, o, rfl, hcell⟩ := rd_bool hr k hkl
      rcases hv : L.getD k false with _ | _
      · have Hst := Lib.hid (wiR_no L M k hkl hv)
        rw [hv] at hcell
        clear hv
        go_wp2
        go_round
        case rel => exact ⟨k + 1, by omega, by go_num, by rw [← Hst.out]; exact hw⟩
        case measure => simp [intOf]; omega
      · rw [hv] at hcell
        rcases hv2 : M.getD k false with _ | _
        · have Hst := Lib.hid (wiR_bad L M k hkl hv hv2)
          have Hv2 := Lib.hid hv2
          clear hv hv2
          go_wp2_with (go_at_call 15; refine (hasRef_val B m d M k false _ HM.out (by omega) hs Hv2.out).mono ?_; rintro e w4 ⟨rfl, rfl⟩)
          go_ret
          exact ⟨by rw [← hw.out, Hst.out]; rfl, rfl⟩
        · have Hst := Lib.hid (wiR_yes L M k hkl hv2)
          have Hv2 := Lib.hid hv2
          clear hv hv2
          go_wp2_with (go_at_call 15; refine (hasRef_val B m d M k true _ HM.out (by omega) hs Hv2.out).mono ?_; rintro e w4 ⟨rfl, rfl⟩)
          go_round
          case rel => exact ⟨k + 1, by omega, by go_num, by rw [← Hst.out]; exact hw⟩
          case measure => simp [intOf]; omega
    · have Hst := Lib.hid (wiR_end L M k (by rw [HL.out]; omega))
      go_wp2
      go_ret
      exact ⟨by rw [← hw.out, Hst.out]; rfl, rfl⟩

/-- The first k places of both together. -/
def orK (L M : List Bool) (k : Nat) : List Bool := (List.range k).map fun i => L.getD i false || M.getD i false
theorem orK_length (L M : List Bool) (k : Nat) : (orK L M k).length = k := by simp [orK]
theorem orK_snoc (L M : List Bool) (k : Nat) (b : Bool) (h : (L.getD k false || M.getD k false) = b) : (orK L M k).map Value.bool ++ [Value.bool b] = (orK L M (k + 1)).map Value.bool := by
  unfold orK
  rw [orB_succ, List.map_append, h]; rfl

set_option maxHeartbeats 1000000 in
theorem orRef_any (A B : Option Addr) (n m c d : Nat) (L M : List Bool) (w : World) (hL : L.length = n) (hM : M.length = m) (hn : n ≤ 1000000) (hm : m ≤ 1000000) (hr : Rd w A (L.map Value.bool)) (hs : Rd w B (M.map Value.bool)) :
    Calls Try.prog 22 #[.slice A n c, .slice B m d] w (RetS w (max n m) ((orB L M).map Value.bool)) := by
  have HL := Lib.hid hL
  have HM := Lib.hid hM
  have Hor := Lib.hid (show orB L M = orK L M (max n m) by unfold orB orK; rw [hL, hM])
  clear hL hM
  have hp : ∃ p : Nat, p = max n m := ⟨_, rfl⟩
  obtain ⟨p, hp⟩ := hp
  rw [← hp] at Hor ⊢
  by_cases h : (n : Int) < (m : Int)
  all_goals
    first
      | (have hpm : p = m := by omega)
      | (have hpm : p = n := by omega)
    subst hpm
    clear hp
    go_enter Try.func22, Try.ntmps22
    go_wp2
    go_loopw [6, 7] (fun v i wr => ∃ k : Nat, k ≤ p ∧ i = .int .i64 k ∧ wr.ownsRow w.heap.size 4 1 v k ((orK L M k).map Value.bool) ∧ Below w.heap.size w wr) (fun _ i _ => p - (intOf i).toNat)
    case atStart => exact ⟨0, by omega, rfl, World.ownsRow_nil _ _ _ _, Below.refl _ _⟩
    case round =>
      obtain ⟨k, hk, rfl, hown, hb⟩ := hrel
      have hsz := hb.size
      by_cases hlt : (k : Int) < (p : Int)
      · rcases ha : L.getD k false with _ | _
        all_goals
          rcases hbb : M.getD k false with _ | _
          all_goals
            have Hs := Lib.hid (orK_snoc L M k _ (by rw [ha, hbb]))
            have Ha := Lib.hid ha
            have Hb := Lib.hid hbb
            clear ha hbb
            go_wp2_with (first
            | (go_at_call 15; with_reducible refine (hasRef_val A _ c L k _ _ HL.out (by omega) (hr.below hb) Ha.out).mono ?_; rintro e w4 ⟨rfl, rfl⟩)
            | (go_at_call 15; with_reducible refine (hasRef_val B _ d M k _ _ HM.out (by omega) (hs.below hb) Hb.out).mono ?_; rintro e w4 ⟨rfl, rfl⟩)
            | (at_builtin; go_must (refine wpList_append_new wr rfl (.tmp 21) (.tmp 30) 27 rfl w.heap.size 4 1 1 el_bool _ _ _ hown rfl _ rfl rfl (by intro u hu; simp at hu; subst hu; rfl) (by unfold maxLen; omega) (by omega) hsz ?_); intro v1 w1 hown1 hb1))
            go_roundw
            case rel => exact ⟨k + 1, by omega, by go_num, by rw [← Hs.out]; exact hown1, hb.trans hb1⟩
            case measure => simp [intOf]; omega
      · obtain rfl : k = p := by omega
        go_wp2
        go_ret
        rw [Hor.out]
        exact RetS.own hown hb (Nat.le_refl _)
end Go.Proofs.Ytmcolpfgflpgiaa
