/-
  The law DiskFuses' walk.
-/
import Derived.Test.YtbblmjpjcabfpaaDkN
import Derived.Test.YtbblmjpjcabfpaaDdB
import Derived.Test.YtbblmjpjcabfpaaFrameK
namespace Go.Proofs.Ytbblmjpjcabfpaa
open Go.RowKit Go.Maps

theorem bitsand_mask (n : Int) (k : Nat) (hk : k ≤ 62) (M : Int) (hM : M = ((2 ^ k - 1 : Nat) : Int)) : bits .and .i64 n M = n % ((2 ^ k : Nat) : Int) := by
  subst hM
  have h64 : 2 ^ k ≤ 2 ^ 62 := Nat.pow_le_pow_right (by omega) hk
  have hd : (2 ^ k) ∣ 18446744073709551616 := by
    rw [show (18446744073709551616 : Nat) = 2 ^ 64 from rfl]
    exact Nat.pow_dvd_pow 2 (by omega)
  have hp : 0 < 2 ^ k := Nat.pow_pos (by omega)
  show IntKind.i64.wrap ((BitVec.ofInt 64 n &&& BitVec.ofInt 64 ((2 ^ k - 1 : Nat) : Int)).toNat : Int) = _
  have h1 : (BitVec.ofInt 64 ((2 ^ k - 1 : Nat) : Int)).toNat = 2 ^ k - 1 := by
    rw [BitVec.toNat_ofInt]
    generalize 2 ^ k = q at *
    simp only [Nat.reducePow] at *
    omega
  rw [BitVec.toNat_and, h1, Nat.and_two_pow_sub_one_eq_mod, BitVec.toNat_ofInt, IntKind.wrap_i64]
  have h2 : (((n % ((2 ^ 64 : Nat) : Int)).toNat % 2 ^ k : Nat) : Int) = n % ((2 ^ k : Nat) : Int) := by
    rw [Int.natCast_emod, Int.toNat_of_nonneg (Int.emod_nonneg _ (by decide))]
    exact Int.emod_emod_of_dvd n (Int.natCast_dvd_natCast.2 hd)
  rw [h2]
  generalize 2 ^ k = q at *
  have h3 := Int.emod_nonneg n (show (q : Int) ≠ 0 by omega)
  have h4 := Int.emod_lt_of_pos n (show (0 : Int) < q by omega)
  simp only [Nat.reducePow] at h64
  omega
theorem Rd.keep3 {w w' : World} {A : Option Addr} {xs : List Value} {b g m : Nat} (h : Rd w A xs) (hk : Keep3 b g m w w') (ho : ∀ ad, A = some ad → ad.block ≠ b ∧ ad.block ≠ g ∧ ad.block ≠ m) : Rd w' A xs := fun hn => by
  obtain ⟨bb, o, e, hc⟩ := h hn
  obtain ⟨h1, h2, h3⟩ := ho _ e
  refine ⟨bb, o, e, fun j u hj => ?_⟩
  have h4 := hc j u hj
  have hlt := World.block_lt_of_cell? w _ h4
  have h5 := hk.2.2.2.2 bb hlt h1 h2 h3
  simp only [World.cell?] at h4 ⊢
  rw [h5]
  exact h4
structure FzRel (w wr : World) (b g m : Nat) (A : Option Addr) (l : List Dd) (N d : Nat) (S : St) : Prop where
  dk : DiskAt wr b g m S 4
  fz : Fz S N d
  rd : Rd wr A (dl l)
  bl : Below w.heap.size w wr
theorem FzRel.next {w wr w1 w2 : World} {b g m N d d' : Nat} {A : Option Addr} {l : List Dd} {S S' : St} (h : FzRel w wr b g m A l N d S) (hb : Below wr.heap.size wr w1) (hk : Keep3 b g m w1 w2) (hD : DiskAt w2 b g m S' 4) (hf : Fz S' N d')
    (ho : ∀ ad, A = some ad → ad.block ≠ b ∧ ad.block ≠ g ∧ ad.block ≠ m) (hl : w.heap.size ≤ b ∧ w.heap.size ≤ g ∧ w.heap.size ≤ m) : FzRel w w2 b g m A l N d' S' :=
  ⟨hD, hf, (h.rd.below hb).keep3 hk ho, (h.bl.trans (hb.mono h.bl.size)).trans (hk.below (Nat.le_trans h.bl.size hb.size) hl.1 hl.2.1 hl.2.2)⟩

set_option maxRecDepth 100000 in
set_option maxHeartbeats 8000000 in
theorem diskFuses_walk (x : Int) (A0 : Option Addr) (n0 c0 : Nat) (l0 : List Dd) (w : World) (lo : -9223372036854775808 ≤ x) (hi : x ≤ 9223372036854775807) (hl : l0.length = n0) (hn : n0 ≤ c0) (hc : c0 ≤ 9223372036854775807) (hr : Rd w A0 (dl l0)) (hok : ∀ y ∈ l0, y.ok) :
    Calls Try.prog 4 #[.int .i64 x, .slice A0 n0 c0] w (Yes w) := by
  unfold Yes
  obtain ⟨N, hN⟩ : ∃ N : Nat, bits .and .i64 x 31 = (N : Int) := ⟨(x % 32).toNat, by rw [bitsand_mask x 5 (by omega) 31 rfl]; simp only [Nat.reducePow]; omega⟩
  have hN31 : N ≤ 31 := by rw [bitsand_mask x 5 (by omega) 31 rfl] at hN; simp only [Nat.reducePow] at hN; omega
  obtain ⟨l, hl2⟩ : ∃ l, fewD l0 = l := ⟨_, rfl⟩
  obtain ⟨L, hL⟩ : ∃ L, l.length = L := ⟨_, rfl⟩
  have HSM : Hid (∀ w1, Below w.heap.size w w1 → Calls Try.prog 9 #[.slice A0 n0 c0] w1 (RetS w1 L (dl l))) := Lib.hid fun w1 hb => by
    have := some_any l0 A0 n0 c0 hl hok w1 (hr.below hb) (by omega)
    rw [hl2, hL] at this
    exact this
  have HOK : Hid (∀ y ∈ l, y.ok ∧ y.s.size ≤ 300) := Lib.hid (by rw [← hl2]; exact fewD_ok hok)
  have hL60 : L ≤ 60 := by rw [← hL, ← hl2]; exact fewD_len l0
  have HL := Lib.hid hL
  clear hl hn hc hr hok hl2 hL
  go_enter Try.func4, Try.ntmps4
  go_wp2_with fail
  (with_reducible refine (new_at w 4 4 rfl (by omega) (by omega)).mono ?_)
  rintro e w1 ⟨b, g, m, rfl, hD, hB, hG, hM, hb1⟩
  have H1 := Lib.hid hD
  have K1 := Lib.hid hb1
  have LB := Lib.hid (And.intro hB (And.intro hG hM))
  clear hD hB hG hM hb1
  go_wp2_with fail
  (with_reducible refine (fuse_any w1 b g m _ 4 H1.out (N : Int) (by omega)).mono ?_)
  rintro e w2 ⟨rfl, hD, hk⟩
  have H2 := Lib.hid hD
  have K2 := Lib.hid (K1.out.trans (hk.below K1.out.size LB.out.1 LB.out.2.1 LB.out.2.2))
  clear hD hk
  go_wp2_with fail
  (with_reducible refine (HSM.out w2 K2.out).mono ?_)
  rintro e w3 ⟨A, c, rfl, hc1, hc2, hrd, hfr, hb3⟩
  have HREL : Hid (FzRel w w3 b g m A l N 0 ((St.new 4).setFuse N)) := Lib.hid ⟨H2.out.below hb3, Fz.start N, hrd, K2.out.trans (hb3.mono K2.out.size)⟩
  have HOFF : Hid (∀ ad, A = some ad → ad.block ≠ b ∧ ad.block ≠ g ∧ ad.block ≠ m) := Lib.hid fun ad hA => by
    have h1 := hfr ad hA
    obtain ⟨_, _, _, h2, h3, _, _, h4, _⟩ := H2.out
    have := h2.lt
    have := h3.lt
    have := h4.lt
    omega
  clear hrd hfr hb3 hc1 hc2
  go_wp2_with fail
  go_loopw [7, 8] (fun v7 v8 wr => ∃ (i d : Nat) (S : St), v7 = .int .i64 d ∧ v8 = .int .i64 i ∧ i ≤ L ∧ d ≤ N ∧ FzRel w wr b g m A l N d S) (fun _ v8 _ => L - (intOf v8).toNat)
  case atStart => exact ⟨0, 0, _, rfl, rfl, by omega, by omega, HREL.out⟩
  case round =>
    obtain ⟨i, d, S, rfl, rfl, hi, hd, hR⟩ := hrel
    have HR := Lib.hid hR
    by_cases hlt : i < L
    · have hl1 : (i : Int) < (L : Int) := by omega
      obtain ⟨y, hy⟩ : ∃ y, l[i]? = some y := ⟨_, List.getElem?_eq_getElem (by rw [HL.out]; exact hlt)⟩
      obtain ⟨bb, o, rfl, q0, q1, q2⟩ := hR.rd.deed hy
      have HY := Lib.hid (HOK.out y (List.mem_of_getElem? hy))
      obtain ⟨yk, yi, ys⟩ := y
      simp only at q0 q1 q2
      clear hR hy
      obtain ⟨j, hj⟩ : ∃ j : Nat, bits .and .i64 yi 3 = (j : Int) := ⟨(yi % 4).toNat, by rw [bitsand_mask yi 2 (by omega) 3 rfl]; simp only [Nat.reducePow]; omega⟩
      have hj4 : j < 4 := by rw [bitsand_mask yi 2 (by omega) 3 rfl] at hj; simp only [Nat.reducePow] at hj; omega
      by_cases hk2 : yk ≤ 2
      · -- a write
        obtain ⟨s, hs⟩ : ∃ s : ByteArray, (if 256 < ys.size then ⟨#[]⟩ else ys) = s := ⟨_, rfl⟩
        have hs256 : s.size ≤ 256 := by rw [← hs]; split <;> first | omega | (show 0 ≤ 256; omega)
        have HFZ := HR.out.fz.wr (i := (j : Int)) (by omega) (by omega) hs256
        rcases HFZ with ⟨h0, hf⟩ | ⟨h7, hdn, hdead, hf⟩
        · have HW : Hid (∀ w', Below wr.heap.size wr w' → Calls Try.prog 11 #[.pointer (some ⟨b, 0, none⟩), .int .i64 (j : Int), .string s] w' fun e w'' => e = .returned (.int .i64 0) ∧ FzRel w w'' b g m (some ⟨bb, o, none⟩) l N (d + 1) (S.wr j s).1) :=
            Lib.hid fun w' hb => (write_any w' b g m S 4 j s (HR.out.dk.below hb) (by omega)).mono fun e w'' ⟨he, hD, hk⟩ => ⟨by rw [he, h0], HR.out.next hb hk hD hf HOFF.out LB.out⟩
          have hdN : d + 1 ≤ N := hf.le
          clear hf h0
          by_cases hbig : 256 < ys.size
          · have hb1 : (256 : Int) < (ys.size : Int) := by omega
            rw [if_pos hbig] at hs
            subst hs
            clear hbig
            go_wp2_with fail
            (with_reducible refine (HW.out _ ((Below.refl _ wr).alloc (Nat.le_refl _) _)).mono ?_)
            rintro e w5 ⟨rfl, hR5⟩
            have HR5 := Lib.hid hR5
            clear hR5
            go_wp2_with fail
            go_roundw
            case rel => exact ⟨i + 1, d + 1, _, congrArg _ (by omega), congrArg _ (by omega), by omega, hdN, HR5.out⟩
            case measure => simp [intOf]; omega
          · have hb1 : ¬ (256 : Int) < (ys.size : Int) := by omega
            rw [if_neg hbig] at hs
            subst hs
            clear hbig
            go_wp2_with fail
            (with_reducible refine (HW.out _ ((Below.refl _ wr).alloc (Nat.le_refl _) _)).mono ?_)
            rintro e w5 ⟨rfl, hR5⟩
            have HR5 := Lib.hid hR5
            clear hR5
            go_wp2_with fail
            go_roundw
            case rel => exact ⟨i + 1, d + 1, _, congrArg _ (by omega), congrArg _ (by omega), by omega, hdN, HR5.out⟩
            case measure => simp [intOf]; omega
        · have HW : Hid (∀ w', Below wr.heap.size wr w' → Calls Try.prog 11 #[.pointer (some ⟨b, 0, none⟩), .int .i64 (j : Int), .string s] w' fun e w'' => e = .returned (.int .i64 7) ∧ FzRel w w'' b g m (some ⟨bb, o, none⟩) l N d (S.wr j s).1) :=
            Lib.hid fun w' hb => (write_any w' b g m S 4 j s (HR.out.dk.below hb) (by omega)).mono fun e w'' ⟨he, hD, hk⟩ => ⟨by rw [he, h7], HR.out.next hb hk hD hf HOFF.out LB.out⟩
          have HDD : Hid (∀ w', FzRel w w' b g m (some ⟨bb, o, none⟩) l N d (S.wr j s).1 → Calls Try.prog 15 #[.pointer (some ⟨b, 0, none⟩)] w' fun e w'' => e = .returned (.bool true) ∧ FzRel w w'' b g m (some ⟨bb, o, none⟩) l N d (S.wr j s).1) :=
            Lib.hid fun w' h => (dead_any w' b g m _ 4 h.dk).mono fun e w'' ⟨he, hb⟩ => ⟨by rw [he, hdead], h.next hb (Keep3.refl _ _ _ _) (h.dk.below hb) h.fz HOFF.out LB.out⟩
          subst hdn
          clear hf h7 hdead
          by_cases hbig : 256 < ys.size
          · have hb1 : (256 : Int) < (ys.size : Int) := by omega
            rw [if_pos hbig] at hs
            subst hs
            clear hbig
            go_wp2_with fail
            (with_reducible refine (HW.out _ ((Below.refl _ wr).alloc (Nat.le_refl _) _)).mono ?_)
            rintro e w5 ⟨rfl, hR5⟩
            have HR5 := Lib.hid hR5
            clear hR5
            go_wp2_with fail
            (with_reducible refine (HDD.out w5 HR5.out).mono ?_)
            rintro e w6 ⟨rfl, hR6⟩
            have HR6 := Lib.hid hR6
            clear hR6
            go_wp2_with fail
            go_roundw
            case rel => exact ⟨i + 1, d, _, rfl, congrArg _ (by omega), by omega, Nat.le_refl _, HR6.out⟩
            case measure => simp [intOf]; omega
          · have hb1 : ¬ (256 : Int) < (ys.size : Int) := by omega
            rw [if_neg hbig] at hs
            subst hs
            clear hbig
            go_wp2_with fail
            (with_reducible refine (HW.out _ ((Below.refl _ wr).alloc (Nat.le_refl _) _)).mono ?_)
            rintro e w5 ⟨rfl, hR5⟩
            have HR5 := Lib.hid hR5
            clear hR5
            go_wp2_with fail
            (with_reducible refine (HDD.out w5 HR5.out).mono ?_)
            rintro e w6 ⟨rfl, hR6⟩
            have HR6 := Lib.hid hR6
            clear hR6
            go_wp2_with fail
            go_roundw
            case rel => exact ⟨i + 1, d, _, rfl, congrArg _ (by omega), by omega, Nat.le_refl _, HR6.out⟩
            case measure => simp [intOf]; omega
      · by_cases hk4 : yk = 4
        · subst hk4
          clear hk2
          rcases HR.out.fz.sync with ⟨h0, hf⟩ | ⟨h7, hdn, hdead, hf⟩
          · have HW : Hid (∀ w', Below wr.heap.size wr w' → Calls Try.prog 12 #[.pointer (some ⟨b, 0, none⟩)] w' fun e w'' => e = .returned (.int .i64 0) ∧ FzRel w w'' b g m (some ⟨bb, o, none⟩) l N (d + 1) S.sync.1) :=
              Lib.hid fun w' hb => (sync_any w' b g m S 4 (HR.out.dk.below hb)).mono fun e w'' ⟨he, hD, hk⟩ => ⟨by rw [he, h0], HR.out.next hb hk hD hf HOFF.out LB.out⟩
            have hdN : d + 1 ≤ N := hf.le
            clear hf h0
            go_wp2_with fail
            (with_reducible refine (HW.out _ ((Below.refl _ wr).alloc (Nat.le_refl _) _)).mono ?_)
            rintro e w5 ⟨rfl, hR5⟩
            have HR5 := Lib.hid hR5
            clear hR5
            go_wp2_with fail
            go_roundw
            case rel => exact ⟨i + 1, d + 1, _, congrArg _ (by omega), congrArg _ (by omega), by omega, hdN, HR5.out⟩
            case measure => simp [intOf]; omega
          · have HW : Hid (∀ w', Below wr.heap.size wr w' → Calls Try.prog 12 #[.pointer (some ⟨b, 0, none⟩)] w' fun e w'' => e = .returned (.int .i64 7) ∧ FzRel w w'' b g m (some ⟨bb, o, none⟩) l N d S.sync.1) :=
              Lib.hid fun w' hb => (sync_any w' b g m S 4 (HR.out.dk.below hb)).mono fun e w'' ⟨he, hD, hk⟩ => ⟨by rw [he, h7], HR.out.next hb hk hD hf HOFF.out LB.out⟩
            have HDD : Hid (∀ w', FzRel w w' b g m (some ⟨bb, o, none⟩) l N d S.sync.1 → Calls Try.prog 15 #[.pointer (some ⟨b, 0, none⟩)] w' fun e w'' => e = .returned (.bool true) ∧ FzRel w w'' b g m (some ⟨bb, o, none⟩) l N d S.sync.1) :=
              Lib.hid fun w' h => (dead_any w' b g m _ 4 h.dk).mono fun e w'' ⟨he, hb⟩ => ⟨by rw [he, hdead], h.next hb (Keep3.refl _ _ _ _) (h.dk.below hb) h.fz HOFF.out LB.out⟩
            subst hdn
            clear hf h7 hdead
            go_wp2_with fail
            (with_reducible refine (HW.out _ ((Below.refl _ wr).alloc (Nat.le_refl _) _)).mono ?_)
            rintro e w5 ⟨rfl, hR5⟩
            have HR5 := Lib.hid hR5
            clear hR5
            go_wp2_with fail
            (with_reducible refine (HDD.out w5 HR5.out).mono ?_)
            rintro e w6 ⟨rfl, hR6⟩
            have HR6 := Lib.hid hR6
            clear hR6
            go_wp2_with fail
            go_roundw
            case rel => exact ⟨i + 1, d, _, rfl, congrArg _ (by omega), by omega, Nat.le_refl _, HR6.out⟩
            case measure => simp [intOf]; omega
        · have hk4' : (yk == 4) = false := by simp [hk4]
          have hrd := HR.out.fz.rd (i := (j : Int)) (by omega) (by omega)
          obtain ⟨rs, hrs⟩ : ∃ rs, (S.rd (j : Int)).1 = rs := ⟨_, rfl⟩
          clear hk4
          cases hdd : S.dead with
          | true =>
            rw [hdd, if_pos rfl] at hrd
            have HW : Hid (∀ w', Below wr.heap.size wr w' → Calls Try.prog 10 #[.pointer (some ⟨b, 0, none⟩), .int .i64 (j : Int)] w' fun e w'' => e = .returned (.tuple #[.string rs, .int .i64 7]) ∧ FzRel w w'' b g m (some ⟨bb, o, none⟩) l N d S) :=
              Lib.hid fun w' hb => (read_any w' b g m S 4 j (HR.out.dk.below hb)).mono fun e w'' ⟨he, hb2⟩ => ⟨by rw [he, hrd, hrs], HR.out.next (bl hb hb2) (Keep3.refl _ _ _ _) ((HR.out.dk.below hb).below hb2) HR.out.fz HOFF.out LB.out⟩
            have HDD : Hid (∀ w', FzRel w w' b g m (some ⟨bb, o, none⟩) l N d S → Calls Try.prog 15 #[.pointer (some ⟨b, 0, none⟩)] w' fun e w'' => e = .returned (.bool true) ∧ FzRel w w'' b g m (some ⟨bb, o, none⟩) l N d S) :=
              Lib.hid fun w' h => (dead_any w' b g m _ 4 h.dk).mono fun e w'' ⟨he, hb⟩ => ⟨by rw [he, hdd], h.next hb (Keep3.refl _ _ _ _) (h.dk.below hb) h.fz HOFF.out LB.out⟩
            clear hrd hrs hdd
            go_wp2_with fail
            (with_reducible refine (HW.out _ ((Below.refl _ wr).alloc (Nat.le_refl _) _)).mono ?_)
            rintro e w5 ⟨rfl, hR5⟩
            have HR5 := Lib.hid hR5
            clear hR5
            go_wp2_with fail
            (with_reducible refine (HDD.out w5 HR5.out).mono ?_)
            rintro e w6 ⟨rfl, hR6⟩
            have HR6 := Lib.hid hR6
            clear hR6
            go_wp2_with fail
            go_roundw
            case rel => exact ⟨i + 1, d, _, rfl, congrArg _ (by omega), by omega, hd, HR6.out⟩
            case measure => simp [intOf]; omega
          | false =>
            rw [hdd, if_neg (by simp)] at hrd
            have HW : Hid (∀ w', Below wr.heap.size wr w' → Calls Try.prog 10 #[.pointer (some ⟨b, 0, none⟩), .int .i64 (j : Int)] w' fun e w'' => e = .returned (.tuple #[.string rs, .int .i64 0]) ∧ FzRel w w'' b g m (some ⟨bb, o, none⟩) l N d S) :=
              Lib.hid fun w' hb => (read_any w' b g m S 4 j (HR.out.dk.below hb)).mono fun e w'' ⟨he, hb2⟩ => ⟨by rw [he, hrd, hrs], HR.out.next (bl hb hb2) (Keep3.refl _ _ _ _) ((HR.out.dk.below hb).below hb2) HR.out.fz HOFF.out LB.out⟩
            have HDD : Hid (∀ w', FzRel w w' b g m (some ⟨bb, o, none⟩) l N d S → Calls Try.prog 15 #[.pointer (some ⟨b, 0, none⟩)] w' fun e w'' => e = .returned (.bool false) ∧ FzRel w w'' b g m (some ⟨bb, o, none⟩) l N d S) :=
              Lib.hid fun w' h => (dead_any w' b g m _ 4 h.dk).mono fun e w'' ⟨he, hb⟩ => ⟨by rw [he, hdd], h.next hb (Keep3.refl _ _ _ _) (h.dk.below hb) h.fz HOFF.out LB.out⟩
            clear hrd hrs hdd
            go_wp2_with fail
            (with_reducible refine (HW.out _ ((Below.refl _ wr).alloc (Nat.le_refl _) _)).mono ?_)
            rintro e w5 ⟨rfl, hR5⟩
            have HR5 := Lib.hid hR5
            clear hR5
            go_wp2_with fail
            (with_reducible refine (HDD.out w5 HR5.out).mono ?_)
            rintro e w6 ⟨rfl, hR6⟩
            have HR6 := Lib.hid hR6
            clear hR6
            go_wp2_with fail
            go_roundw
            case rel => exact ⟨i + 1, d, _, rfl, congrArg _ (by omega), by omega, hd, HR6.out⟩
            case measure => simp [intOf]; omega
    · have hl1 : ¬ (i : Int) < (L : Int) := by omega
      have hdn : (d : Int) ≤ (N : Int) := by omega
      go_wp2_with fail
      (with_reducible refine (awake_any wr).mono ?_)
      rintro e w9 ⟨rfl, b9⟩
      go_wp2_with fail
      go_ret
      exact ⟨rfl, HR.out.bl.trans (b9.mono HR.out.bl.size)⟩
end Go.Proofs.Ytbblmjpjcabfpaa
