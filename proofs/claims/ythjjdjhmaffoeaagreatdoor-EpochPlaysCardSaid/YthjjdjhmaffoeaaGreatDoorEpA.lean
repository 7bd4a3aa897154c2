/-
  Epochs as plain data: what stands in a sector, the next number. The walks of epoch.text and epoch.Last.
-/
import Derived.Test.YthjjdjhmaffoeaaGreatDoorDkE
import Derived.Test.YthjjdjhmaffoeaaGreatDoorZer
import Derived.Test.YthjjdjhmaffoeaaGreatDoorFixT
namespace Go.Proofs.YthjjdjhmaffoeaaGreatDoor
open Go.RowKit

def markL : List UInt8 := [83, 76, 69, 49]
def epN (s : ByteArray) : Nat := num ((s.toList.drop 4).take 4)
def epM (s : ByteArray) : Bool := Lib.hasPrefix s.toList markL
def epZ (s : ByteArray) : Bool := (s.toList.drop 8).all (· == 0)
/-- The number that stands in a sector, or what is wrong. -/
def lastF (s : ByteArray) : Int × Int :=
  if epM s then (if epN s = 0 ∨ epZ s = false then (0, 2) else (epN s, 0)) else if zeroB s then (0, 0) else (0, 2)
def St.last (S : St) (i : Int) : Int × Int := if (S.rd i).2 = 0 then lastF (S.rd i).1 else (0, (S.rd i).2)
/-- The sector of a number. -/
def textS (n : Int) : ByteArray := ofL (markL ++ be n 4)
theorem textS_size (n : Int) : (textS n).size = 8 := by unfold textS; rw [size_ofL, List.length_append, be_length]; rfl
/-- The next number. -/
def St.next (S : St) (i : Int) : St × Int × Int :=
  if (S.last i).2 ≠ 0 then (S, 0, (S.last i).2)
  else if (S.last i).1 = 4294967295 then (S, 0, 3)
  else if (S.wr i (textS ((S.last i).1 + 1))).2 ≠ 0 then ((S.wr i (textS ((S.last i).1 + 1))).1, 0, (S.wr i (textS ((S.last i).1 + 1))).2)
  else if (S.wr i (textS ((S.last i).1 + 1))).1.sync.2 ≠ 0 then ((S.wr i (textS ((S.last i).1 + 1))).1.sync.1, 0, (S.wr i (textS ((S.last i).1 + 1))).1.sync.2)
  else ((S.wr i (textS ((S.last i).1 + 1))).1.sync.1, (S.last i).1 + 1, 0)
theorem epN_lt (s : ByteArray) : epN s ≤ 4294967295 := by
  have h1 := num_lt ((s.toList.drop 4).take 4)
  have h2 : (256 : Nat) ^ ((s.toList.drop 4).take 4).length ≤ 256 ^ 4 := Nat.pow_le_pow_right (by omega) (by rw [List.length_take]; omega)
  unfold epN
  simp only [Nat.reducePow] at h2
  omega
theorem lastF_range (s : ByteArray) : 0 ≤ (lastF s).1 ∧ (lastF s).1 ≤ 4294967295 := by
  have := epN_lt s
  unfold lastF
  split
  · split
    · exact ⟨by decide, by decide⟩
    · exact ⟨by simp only; omega, by simp only; omega⟩
  · split <;> exact ⟨by decide, by decide⟩
theorem St.last_range (S : St) (i : Int) : 0 ≤ (S.last i).1 ∧ (S.last i).1 ≤ 4294967295 := by
  unfold St.last
  split
  · exact lastF_range _
  · exact ⟨Int.le_refl 0, by show (0 : Int) ≤ _; omega⟩
theorem St.rd_size {S : St} {n : Nat} (h : S.Ok n) {i : Int} (hi : (S.rd i).2 = 0) : (S.rd i).1.size = 256 := by
  by_cases hm : S.may i = 0
  · have hin : 0 ≤ i ∧ i < n := by
      refine Classical.byContradiction fun hn => ?_
      rw [St.may_out h (by omega)] at hm
      cases hd : S.dead <;> simp [hd] at hm
    unfold St.rd
    rw [if_pos hm]
    have hl : i.toNat < S.lst.length := by rw [h.ll]; omega
    simp only
    rw [List.getElem?_eq_getElem hl]
    exact h.zl _ (List.getElem_mem hl)
  · unfold St.rd at hi
    rw [if_neg hm] at hi
    exact absurd hi hm

set_option maxRecDepth 20000 in
set_option maxHeartbeats 1000000 in
theorem text_any (n : Int) (w : World) : Calls Tryz.prog 24 #[.int .i64 n] w fun e w' => e = .returned (.string (textS n)) ∧ Below w.heap.size w w' := by
  obtain ⟨t, ht⟩ : ∃ t, ofL (be n 4) = t := ⟨_, rfl⟩
  have hts : t.size = 4 := by rw [← ht, size_ofL, be_length]
  have hadd : ¬ (9223372036854775807 < (⟨#[83, 76, 69, 49]⟩ : ByteArray).size + t.size) := by rw [hts]; decide
  have HC : Hid (∀ w', Calls Tryz.prog 47 #[.int .i64 n, .int .i64 4] w' fun e w'' => e = .returned (.string t) ∧ Below w'.heap.size w' w'') := Lib.hid fun w' => fixed_is n 4 t w' (by rw [← ht, toList_ofL]; rfl)
  have HT := Lib.hid (show (⟨#[83, 76, 69, 49]⟩ : ByteArray) ++ t = textS n by
    unfold textS
    rw [← ofL_app, ← ht]
    rfl)
  clear ht hts
  go_enter Tryz.func24, Tryz.ntmps24
  go_wp2_with fail
  (with_reducible refine (HC.out w).mono ?_)
  rintro e w1 ⟨rfl, hb⟩
  go_wp2_with fail
  all_goals go_ret
  all_goals exact ⟨by rw [← HT.out]; rfl, hb⟩

theorem cut_m (s : ByteArray) (h : epM s = true) (w : World) : Calls Tryz.prog 27 #[.string s, .string ⟨#[83, 76, 69, 49]⟩] w fun e w' => e = .returned (.tuple #[.string (ofL (s.toList.drop 4)), .bool true]) ∧ Below w.heap.size w w' := by
  refine (Tryz.strings_CutPrefix s ⟨#[83, 76, 69, 49]⟩ w).mono ?_
  rintro e w' ⟨rfl, rfl⟩
  have hp : Lib.hasPrefix s.data.toList (⟨#[83, 76, 69, 49]⟩ : ByteArray).data.toList = true := by unfold epM at h; rw [ByteArray.toList_eq] at h; exact h
  refine ⟨?_, Below.refl _ _⟩
  unfold Lib.trimPrefix
  rw [hp, if_pos rfl]
  unfold ofL
  rw [ByteArray.toList_eq]
  rfl
theorem cut_n (s : ByteArray) (h : epM s = false) (w : World) : Calls Tryz.prog 27 #[.string s, .string ⟨#[83, 76, 69, 49]⟩] w fun e w' => e = .returned (.tuple #[.string s, .bool false]) ∧ Below w.heap.size w w' := by
  refine (Tryz.strings_CutPrefix s ⟨#[83, 76, 69, 49]⟩ w).mono ?_
  rintro e w' ⟨rfl, rfl⟩
  have hp : Lib.hasPrefix s.data.toList (⟨#[83, 76, 69, 49]⟩ : ByteArray).data.toList = false := by unfold epM at h; rw [ByteArray.toList_eq] at h; exact h
  refine ⟨?_, Below.refl _ _⟩
  unfold Lib.trimPrefix
  rw [hp, if_neg (by simp)]

set_option maxRecDepth 20000 in
set_option maxHeartbeats 4000000 in
theorem last_any (w : World) (b g m : Nat) (S : St) (n : Nat) (i : Int) (h : DiskAt w b g m S n) :
    Calls Tryz.prog 8 #[.pointer (some ⟨b, 0, none⟩), .int .i64 i] w fun e w' => e = .returned (.tuple #[.int .i64 (S.last i).1, .int .i64 (S.last i).2]) ∧ Below w.heap.size w w' := by
  have hok : S.Ok n := by obtain ⟨_, _, _, _, _, _, _, _, _, _, _, _, hok, _⟩ := h; exact hok
  obtain ⟨rs, hrs⟩ : ∃ rs, (S.rd i).1 = rs := ⟨_, rfl⟩
  obtain ⟨re, hre⟩ : ∃ re, (S.rd i).2 = re := ⟨_, rfl⟩
  have HRD := Lib.hid (read_any w b g m S n i h)
  rw [hrs, hre] at HRD
  by_cases h0 : re = 0
  · subst h0
    have hsz : rs.size = 256 := by rw [← hrs]; exact St.rd_size hok hre
    have HL := Lib.hid (show S.last i = lastF rs by unfold St.last; rw [if_pos hre, hrs])
    clear hrs hre hok h
    cases hm : epM rs with
    | false =>
      have HC : Hid (∀ w', Calls Tryz.prog 27 #[.string rs, .string ⟨#[83, 76, 69, 49]⟩] w' fun e w'' => e = .returned (.tuple #[.string rs, .bool false]) ∧ Below w'.heap.size w' w'') := Lib.hid fun w' => cut_n rs hm w'
      cases hz : zeroB rs with
      | true =>
        have HF := Lib.hid (show lastF rs = (0, 0) by unfold lastF; rw [hm, hz]; rfl)
        have HZ : Hid (∀ w', Calls Tryz.prog 28 #[.string rs, .string ⟨#[0]⟩] w' fun e w'' => e = .returned (.string ⟨#[]⟩) ∧ Below w'.heap.size w' w'') := Lib.hid fun w' => trimZ rs w' (by omega) hz
        clear hm hz hsz
        go_enter Tryz.func8, Tryz.ntmps8
        go_wp2_with fail
        (with_reducible refine HRD.out.mono ?_)
        rintro e w1 ⟨rfl, b1⟩
        go_wp2_with fail
        (with_reducible refine (HC.out w1).mono ?_)
        rintro e w2 ⟨rfl, b2⟩
        go_wp2_with fail
        (with_reducible refine (HZ.out w2).mono ?_)
        rintro e w3 ⟨rfl, b3⟩
        go_wp2_with fail
        go_ret2
        exact ⟨by rw [HL.out, HF.out]; rfl, bl (bl b1 b2) b3⟩
      | false =>
        have HF := Lib.hid (show lastF rs = (0, 2) by unfold lastF; rw [hm, hz]; rfl)
        have HZ : Hid (∀ w', Calls Tryz.prog 28 #[.string rs, .string ⟨#[0]⟩] w' fun e w'' => ∃ z : ByteArray, e = .returned (.string z) ∧ 0 < z.size ∧ Below w'.heap.size w' w'') := Lib.hid fun w' => trimN rs w' (by omega) hz
        clear hm hz hsz
        go_enter Tryz.func8, Tryz.ntmps8
        go_wp2_with fail
        (with_reducible refine HRD.out.mono ?_)
        rintro e w1 ⟨rfl, b1⟩
        go_wp2_with fail
        (with_reducible refine (HC.out w1).mono ?_)
        rintro e w2 ⟨rfl, b2⟩
        go_wp2_with fail
        (with_reducible refine (HZ.out w2).mono ?_)
        rintro e w3 ⟨z, rfl, hz0, b3⟩
        have hze := isEmpty_of z hz0
        clear hz0
        go_wp2_with fail
        go_ret2
        exact ⟨by rw [HL.out, HF.out]; rfl, bl (bl b1 b2) b3⟩
    | true =>
      obtain ⟨t, ht⟩ : ∃ t, ofL (rs.toList.drop 4) = t := ⟨_, rfl⟩
      have htl : t.toList = rs.toList.drop 4 := by rw [← ht, toList_ofL]
      obtain ⟨r, hr⟩ : ∃ r, ofL (rs.toList.drop 8) = r := ⟨_, rfl⟩
      have hrl : r.toList = rs.toList.drop 8 := by rw [← hr, toList_ofL]
      have hrsz : r.size ≤ 1000 := by rw [← size_toList, hrl, List.length_drop, size_toList]; omega
      have hlt := epN_lt rs
      obtain ⟨N, hN⟩ : ∃ N, epN rs = N := ⟨_, rfl⟩
      have HC : Hid (∀ w', Calls Tryz.prog 27 #[.string rs, .string ⟨#[83, 76, 69, 49]⟩] w' fun e w'' => e = .returned (.tuple #[.string t, .bool true]) ∧ Below w'.heap.size w' w'') := Lib.hid fun w' => by rw [← ht]; exact cut_m rs hm w'
      have HT : Hid (∀ w', Calls Tryz.prog 29 #[.string t, .int .i64 4] w' fun e w'' => e = .returned (.tuple #[.int .i64 (N : Int), .string r, .int .i64 0]) ∧ Below w'.heap.size w' w'') := Lib.hid fun w' => takeF_is t r 4 N 0 w' (by rw [← size_toList, htl, List.length_drop, size_toList]; omega) (by
        unfold takeF
        rw [if_neg (by omega), if_neg (by rw [htl, List.length_drop, size_toList]; omega), htl, hrl]
        rw [show (4 : Int).toNat = 4 from rfl, List.drop_drop]
        have e1 : wrap64 (num ((rs.toList.drop 4).take 4) : Int) = (N : Int) := by
          rw [← hN]
          unfold epN at hlt ⊢
          rw [wrap64_id _ (by omega) (by omega)]
        rw [e1])
      by_cases hN0 : N = 0
      · have HF := Lib.hid (show lastF rs = (0, 2) by unfold lastF; rw [hm, if_pos rfl, if_pos (.inl (by rw [hN, hN0]))])
        have hN1 : (N : Int) < 1 := by omega
        clear hm ht htl hr hrl hlt hN hN0 hsz
        go_enter Tryz.func8, Tryz.ntmps8
        go_wp2_with fail
        (with_reducible refine HRD.out.mono ?_)
        rintro e w1 ⟨rfl, b1⟩
        go_wp2_with fail
        (with_reducible refine (HC.out w1).mono ?_)
        rintro e w2 ⟨rfl, b2⟩
        go_wp2_with fail
        (with_reducible refine (HT.out w2).mono ?_)
        rintro e w3 ⟨rfl, b3⟩
        go_wp2_with fail
        go_ret2
        exact ⟨by rw [HL.out, HF.out]; rfl, bl (bl b1 b2) b3⟩
      · have hN1 : ¬ (N : Int) < 1 := by omega
        have hez : epZ rs = zeroB r := by unfold epZ zeroB; rw [hrl]
        cases hz : zeroB r with
        | true =>
          have HF := Lib.hid (show lastF rs = ((N : Int), 0) by unfold lastF; rw [hm, if_pos rfl, if_neg (by rw [hN, hez, hz]; simp [hN0]), hN])
          have HZ : Hid (∀ w', Calls Tryz.prog 28 #[.string r, .string ⟨#[0]⟩] w' fun e w'' => e = .returned (.string ⟨#[]⟩) ∧ Below w'.heap.size w' w'') := Lib.hid fun w' => trimZ r w' hrsz hz
          clear hm ht htl hr hrl hlt hN hN0 hsz hez hz hrsz
          go_enter Tryz.func8, Tryz.ntmps8
          go_wp2_with fail
          (with_reducible refine HRD.out.mono ?_)
          rintro e w1 ⟨rfl, b1⟩
          go_wp2_with fail
          (with_reducible refine (HC.out w1).mono ?_)
          rintro e w2 ⟨rfl, b2⟩
          go_wp2_with fail
          (with_reducible refine (HT.out w2).mono ?_)
          rintro e w3 ⟨rfl, b3⟩
          go_wp2_with fail
          (with_reducible refine (HZ.out w3).mono ?_)
          rintro e w4 ⟨rfl, b4⟩
          go_wp2_with fail
          go_ret2
          exact ⟨by rw [HL.out, HF.out]; rfl, bl (bl (bl b1 b2) b3) b4⟩
        | false =>
          have HF := Lib.hid (show lastF rs = (0, 2) by unfold lastF; rw [hm, if_pos rfl, if_pos (.inr (by rw [hez, hz]))])
          have HZ : Hid (∀ w', Calls Tryz.prog 28 #[.string r, .string ⟨#[0]⟩] w' fun e w'' => ∃ z : ByteArray, e = .returned (.string z) ∧ 0 < z.size ∧ Below w'.heap.size w' w'') := Lib.hid fun w' => trimN r w' hrsz hz
          clear hm ht htl hr hrl hlt hN hN0 hsz hez hz hrsz
          go_enter Tryz.func8, Tryz.ntmps8
          go_wp2_with fail
          (with_reducible refine HRD.out.mono ?_)
          rintro e w1 ⟨rfl, b1⟩
          go_wp2_with fail
          (with_reducible refine (HC.out w1).mono ?_)
          rintro e w2 ⟨rfl, b2⟩
          go_wp2_with fail
          (with_reducible refine (HT.out w2).mono ?_)
          rintro e w3 ⟨rfl, b3⟩
          go_wp2_with fail
          (with_reducible refine (HZ.out w3).mono ?_)
          rintro e w4 ⟨z, rfl, hz0, b4⟩
          have hze := isEmpty_of z hz0
          clear hz0
          go_wp2_with fail
          go_ret2
          exact ⟨by rw [HL.out, HF.out]; rfl, bl (bl (bl b1 b2) b3) b4⟩
  · have HL := Lib.hid (show S.last i = (0, re) by unfold St.last; rw [hre, if_neg h0])
    have h1 : (re == 0) = false := by simp [h0]
    clear hrs hre hok h h0
    go_enter Tryz.func8, Tryz.ntmps8
    go_wp2_with fail
    (with_reducible refine HRD.out.mono ?_)
    rintro e w1 ⟨rfl, b1⟩
    go_wp2_with fail
    go_ret2
    exact ⟨by rw [HL.out]; rfl, b1⟩
end Go.Proofs.YthjjdjhmaffoeaaGreatDoor
