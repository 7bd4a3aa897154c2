/-
  The reference's window: the walk of Ack.
-/
import Derived.Test.YtapanifgnpklpaaWinL
namespace Go.Proofs.Ytapanifgnpklpaa
open Go.RowKit

theorem offT_get (T : Nat → Int × Int) (O : List Bool) (k i : Nat) : offT T (listR O k) i = if k ≤ i ∧ O.getD i false = true then (0, 0) else T i := by
  have aux : ∀ (m k : Nat) (T : Nat → Int × Int), O.length - k ≤ m → offT T (listR O k) i = if k ≤ i ∧ O.getD i false = true then (0, 0) else T i := by
    intro m
    induction m with
    | zero =>
      intro k T hk
      rw [listR_end O k (by omega), if_neg (fun h => by have := getD_in h.2; omega)]
      rfl
    | succ m ih =>
      intro k T hk
      by_cases hlt : k < O.length
      · by_cases hv : O.getD k false = true
        · rw [listR_hit O k hlt hv]
          show offT (upd T ((k : Int)).toNat (0, 0)) (listR O (k + 1)) i = _
          rw [ih (k + 1) _ (by omega), Int.toNat_natCast]
          by_cases hki : k = i
          · subst hki
            rw [if_neg (by omega), if_pos ⟨Nat.le_refl _, hv⟩]
            exact if_pos rfl
          · by_cases h1 : k + 1 ≤ i ∧ O.getD i false = true
            · rw [if_pos h1, if_pos ⟨by omega, h1.2⟩]
            · rw [if_neg h1, if_neg (fun h => h1 ⟨by omega, h.2⟩)]
              exact if_neg (fun e => hki e.symm)
        · rw [listR_miss O k hlt hv, ih (k + 1) _ (by omega)]
          by_cases hki : k = i
          · subst hki
            rw [if_neg (by omega), if_neg (fun h => hv h.2)]
          · by_cases h1 : k + 1 ≤ i ∧ O.getD i false = true
            · rw [if_pos h1, if_pos ⟨by omega, h1.2⟩]
            · rw [if_neg h1, if_neg (fun h => h1 ⟨by omega, h.2⟩)]
      · rw [listR_end O k (by omega), if_neg (fun h => by have := getD_in h.2; omega)]
        rfl
  exact aux _ k T (Nat.le_refl _)

theorem stV_ack (A S M : List Bool) (i : Nat) : stV M (offS S (listR (orB A M) 0)) i = if M.getD i false = true then 2 else if A.getD i false = true then 0 else if S.getD i false = true then 1 else 0 := by
  unfold stV
  rw [offS_getD, orB_getD]
  cases M.getD i false <;> cases A.getD i false <;> cases S.getD i false <;> simp

/-- The states while Ack runs: the first k are done. -/
def ackF (A S M : List Bool) (k i : Nat) : Value := if i < k then stF M (offS S (listR (orB A M) 0)) i else stF A S i
theorem ackF_same (A S M : List Bool) (k : Nat) (h : stF M (offS S (listR (orB A M) 0)) k = stF A S k) (i : Nat) : ackF A S M k i = ackF A S M (k + 1) i := by
  unfold ackF
  by_cases h1 : i < k
  · rw [if_pos h1, if_pos (by omega)]
  · by_cases h2 : i = k
    · subst h2; rw [if_neg h1, if_pos (by omega), h]
    · rw [if_neg h1, if_neg (by omega)]
theorem ackF_put (A S M : List Bool) (k : Nat) (v : Value) (h : stF M (offS S (listR (orB A M) 0)) k = v) (i : Nat) : (if i = k then v else ackF A S M k i) = ackF A S M (k + 1) i := by
  unfold ackF
  by_cases h2 : i = k
  · subst h2; rw [if_pos rfl, if_pos (by omega), h]
  · rw [if_neg h2]
    by_cases h1 : i < k
    · rw [if_pos h1, if_pos (by omega)]
    · rw [if_neg h1, if_neg (by omega)]

set_option maxRecDepth 20000 in
set_option maxHeartbeats 2000000 in
theorem refAck_bad (r rs rt N : Nat) (vS vT : Value) (A S : List Bool) (T : Nat → Int × Int) (w : World) (h : RefAt w r rs rt N vS vT A S T) (B : Option Addr) (m c : Nat) (hm : ¬ m = N) :
    Calls Try.prog 23 #[.pointer (some ⟨r, 0, none⟩), .slice B m c] w fun e w' => e = .returned (.bool false) ∧ w = w' := by
  obtain ⟨hB, h2, h3, h4, ⟨AS, cs, rfl, hNc, hcm, hAS⟩, h6, h7, h8⟩ := h
  have p0 : w.cell? ⟨r, 0, none⟩ = some (.slice AS N cs) := hB.cell 0
  have hb : (((m : Nat) : Int) != ((N : Nat) : Int)) = true := by simp; omega
  clear hB h2 h3 h4 h6 h7 h8 hAS
  go_enter Try.func23, Try.ntmps23
  go_wp2
  go_ret
  exact ⟨rfl, rfl⟩

set_option maxRecDepth 20000 in
set_option maxHeartbeats 2000000 in
theorem refAck_ok (r rs rt N : Nat) (vS vT : Value) (A S M : List Bool) (T : Nat → Int × Int) (w : World) (h : RefAt w r rs rt N vS vT A S T) (hM : M.length = N) (hN : N ≤ 256) (B : Option Addr) (c : Nat) (hr : Rd w B (M.map Value.bool)) (hBr : 0 < N → ∀ ad, B = some ad → ad.block ≠ rs) :
    Calls Try.prog 23 #[.pointer (some ⟨r, 0, none⟩), .slice B N c] w fun e w' => e = .returned (.bool true) ∧ RefAt w' r rs rt N vS vT M (offS S (listR (orB A M) 0)) (offT T (listR (orB A M) 0)) ∧ TwoF rs rt w w' := by
  obtain ⟨hB, h2, h3, h4, ⟨AS, cs, rfl, hNc, hcm, hAS⟩, h6, h7, Tt, h8, h9⟩ := h
  have p0 : w.cell? ⟨r, 0, none⟩ = some (.slice AS N cs) := hB.cell 0
  have HM := Lib.hid hM
  clear hM
  go_enter Try.func23, Try.ntmps23
  go_upto_region 4 with (fail)
  clear p0
  go_loopw [5] (fun i wr => ∃ k : Nat, k ≤ N ∧ i = .int .i64 k ∧ (0 < N → RowN wr rs 3 N (ackF A S M k)) ∧ w.grownBy wr (some rs)) (fun i _ => N - (intOf i).toNat)
  case atStart => exact ⟨0, by omega, rfl, fun hp => (h7 hp).congr (fun i _ => (if_neg (by omega)).symm), ⟨rfl, rfl, rfl, Nat.le_refl _, fun _ _ _ => rfl⟩⟩
  case round =>
    obtain ⟨k, hk, rfl, hRow, hg⟩ := hrel
    have hBr' := hB.only hg h2
    have p0 : wr.cell? ⟨r, 0, none⟩ = some (.slice AS N cs) := hBr'.cell 0
    by_cases hlt : (k : Int) < (N : Int)
    · obtain rfl := hAS (by omega)
      have hR := hRow (by omega)
      have hcell := hR.cell (i := k) (by omega)
      have hfr := hR.frozen k
      obtain ⟨bb, oo, rfl, hc2⟩ := rd_bool (hr.only hg (fun _ => hBr (by omega))) k (by rw [HM.out]; omega)
      have e0 : ackF A S M k k = .int .i64 (stV A S k) := if_neg (by omega)
      rw [e0] at hcell
      have hst := stV_ack A S M k
      cases hv : M.getD k false with
      | true =>
        rw [hv] at hc2 hst
        have hR2 := (hR.set k (.int .i64 2)).congr (g := ackF A S M (k + 1)) (fun i _ => ackF_put A S M k _ (by unfold stF; rw [hst]; rfl) i)
        have hg2 := only_trans hg (only_set wr rs k (.int .i64 2))
        generalize stV A S k = z at *
        have HR2 := Lib.hid hR2
        clear hv hst hR hRow hR2 hg hBr'
        go_wp2_with fail
        go_roundw
        case rel => exact ⟨k + 1, by omega, by go_num, fun _ => HR2.out, hg2⟩
        case measure => simp [intOf]; omega
      | false =>
        rw [hv] at hc2 hst
        cases ha : A.getD k false with
        | true =>
          have hz : stV A S k = 2 := by unfold stV; rw [ha]; rfl
          rw [ha] at hst
          rw [hz] at hcell
          have hR2 := (hR.set k (.int .i64 0)).congr (g := ackF A S M (k + 1)) (fun i _ => ackF_put A S M k _ (by unfold stF; rw [hst]; rfl) i)
          have hg2 := only_trans hg (only_set wr rs k (.int .i64 0))
          have HR2 := Lib.hid hR2
          clear hv hst hR hRow hR2 hg hBr' hz ha e0
          go_wp2_with fail
          go_roundw
          case rel => exact ⟨k + 1, by omega, by go_num, fun _ => HR2.out, hg2⟩
          case measure => simp [intOf]; omega
        | false =>
          have hz : stV A S k = if S.getD k false = true then 1 else 0 := by unfold stV; rw [ha]; rfl
          rw [ha] at hst
          have hz2 : (stV A S k == 2) = false := by rw [hz]; split <;> rfl
          have hR2 := hR.congr (g := ackF A S M (k + 1)) (fun i _ => ackF_same A S M k (by unfold stF; rw [hst, hz]; rfl) i)
          have HR2 := Lib.hid hR2
          generalize stV A S k = z at *
          clear hv hst hR hRow hR2 hBr' hz ha e0
          go_wp2_with fail
          go_roundw
          case rel => exact ⟨k + 1, by omega, by go_num, fun _ => HR2.out, hg⟩
          case measure => simp [intOf]; omega
    · have hkN : k = N := by omega
      subst hkN
      have hfin : RefAt wr r rs rt k (.slice AS k cs) vT M (offS S (listR (orB A M) 0)) (offT T (listR (orB A M) 0)) := by
        refine ⟨hBr', h2, h3, h4, ⟨AS, cs, rfl, hNc, hcm, hAS⟩, h6, fun hp => (hRow hp).congr (fun i hi => if_pos hi), Tt, fun hp => (h8 hp).of_block (hg.block rt (h8 hp).lt (by simpa using Ne.symm h4)), fun i hi hs => ?_⟩
        rw [offS_getD] at hs
        have ho : (orB A M).getD i false = false := by
          cases ho : (orB A M).getD i false with
          | false => rfl
          | true => rw [ho] at hs; simp at hs
        rw [offT_get, if_neg (by rw [ho]; simp)]
        exact h9 i hi (by rw [ho] at hs; simpa using hs)
      have Hfin := Lib.hid hfin
      clear hfin hRow hB h8 h9 hBr'
      go_wp2_with fail
      go_ret
      exact ⟨rfl, Hfin.out, TwoF.left rt hg⟩
end Go.Proofs.Ytapanifgnpklpaa
