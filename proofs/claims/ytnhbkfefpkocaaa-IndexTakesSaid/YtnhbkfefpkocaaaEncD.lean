/-
  The walks of enc.TakeNum and sledgeref01.TakeNum.
-/
import Derived.Test.YtnhbkfefpkocaaaP14
import Derived.WalkMore
import Derived.ScopeJumps
namespace Go.Proofs.Ytnhbkfefpkocaaa
open Go.RowKit

/-- What 'TakeNum' returns. -/
def TakeEnd (s : List UInt8) (e : Ending) : Prop := e = .returned (.tuple #[.int .i64 (tkN s), .string (ofL (tkR s)), .int .i64 (tkE s)])
theorem TakeEnd.bad {s : List UInt8} (h : takeN s = none) : TakeEnd s (.returned (.tuple #[.int .i64 0, .string ⟨#[]⟩, .int .i64 2])) := by
  unfold TakeEnd tkN tkR tkE; rw [h]; rfl
theorem TakeEnd.good {s : List UInt8} {n : Nat} {r : List UInt8} (h : takeN s = some (n, r)) {m : Int} {t : ByteArray} (hm : m = n) (ht : t.toList = r) : TakeEnd s (.returned (.tuple #[.int .i64 m, .string t, .int .i64 0])) := by
  unfold TakeEnd tkN tkR tkE; rw [h]; subst hm; subst ht; simp only [ofL_toList]

theorem toList_of_size (s : ByteArray) (h0 : 0 < s.size) : ∃ t, s.toList = s[0] :: t ∧ t.length + 1 = s.size := by
  have hl := size_toList s
  cases hs : s.toList with
  | nil => simp [hs] at hl; omega
  | cons b t =>
    refine ⟨t, ?_, by simpa [hs] using hl⟩
    have := getElem_toList s 0 h0
    simp [hs] at this
    rw [this]
theorem isEmpty_of (s : ByteArray) (h0 : 0 < s.size) : s.toList.isEmpty = false := by
  obtain ⟨t, h, _⟩ := toList_of_size s h0
  rw [h]; rfl

set_option maxHeartbeats 1000000 in
theorem takeNum_nil (s : ByteArray) (w : World) (h : s.toList = []) :
    Calls Try.prog 71 #[.string s] w fun e w' => TakeEnd s.toList e ∧ Below w.heap.size w w' := by
  have he : s.toList.isEmpty = true := by simp [h]
  have Hh := Lib.hid h
  clear h
  go_enter Try.func71, Try.ntmps71
  go_wp2
  go_step3
  go_wp2
  rw [Exit.noGoto_ret]
  go_ret3
  exact ⟨TakeEnd.bad (by rw [Hh.out]; rfl), Below.refl _ _⟩

set_option maxHeartbeats 1000000 in
theorem takeNum_lo (s : ByteArray) (w : World) (h0 : 0 < s.size) (h1 : s[0].toNat < 248) :
    Calls Try.prog 71 #[.string s] w fun e w' => TakeEnd s.toList e ∧ Below w.heap.size w w' := by
  have he := isEmpty_of s h0
  go_enter Try.func71, Try.ntmps71
  go_wp2
  go_step3
  go_wp2
  go_quiet (fail)
  go_wp2
  rw [Exit.noGoto_ret]
  go_ret3
  obtain ⟨t, ht, _⟩ := toList_of_size s h0
  exact ⟨TakeEnd.good (n := s[0].toNat) (r := t) (by rw [ht, takeN, if_pos h1]) rfl (by rw [toList_ext, ht]; simp only [List.drop_succ_cons, List.drop_zero]; rw [List.take_of_length_le (by omega)]), below_drewN (Below.refl _ _) _⟩

theorem wp_scope_enter {P : Program} {a : Act} {w : World} {Q : Exit → Act → World → Prop} {c B : Code} (l : Nat) (J : Act → World → Prop) (μ : Act → World → Nat) (hf : findLabel c l = some (Code.seq .skip B))
    (first : (∀ a w, J a w → B.wp P (Exit.jump l J Q) a w) → c.wp P (Exit.jump l J Q) a w)
    (pass : ∀ a w, J a w → B.wp P (Exit.jump l (fun a' w' => J a' w' ∧ μ a' w' < μ a w) Q) a w) : (Code.scope c).wp P Q a w :=
  wp_scope_jumps l J μ hf (first fun a w hj => wp_mono (pass a w hj) fun e a w h => by
    cases e <;> first | exact h | exact ⟨h.1, h.2.1⟩) fun a w hj => wp_seq (wp_skip (pass a w hj))

theorem bitsor_small (n : Nat) (b : UInt8) (h : n ≤ 281474976710655) : bits .or .i64 ((n : Int) * 256) (b.toNat : Int) = ((n * 256 + b.toNat : Nat) : Int) := by
  have h1 := bitsor_byte n b
  have hb := UInt8.toNat_lt b
  rw [wrap64_id _ (by omega) (by omega), wrap64_id _ (by omega) (by omega)] at h1
  rw [h1]; omega

/-- The frame at the label, behind a name. -/
def TkJ (s : ByteArray) (b : Nat) (t : List UInt8) (w : World) (a' : Act) (w' : World) : Prop :=
  w' = w ∧ ∃ (j N : Nat) (u21 u22 u23 u24 u25 u26 u27 u28 u29 u30 u31 u32 u33 u34 u35 u36 u37 u38 u39 u40 : Value), (j + 248 ≤ b ∧ j ≤ t.length ∧ N = num (t.take j)) ∧
    a' = ⟨#[.string s, undef, .int .i64 0, .string ⟨#[]⟩, .int .i64 0, .int .i64 ((b : Int) - 247), .int .i64 (N : Nat), .int .i64 ((j : Nat) + 1 : Int), .string s, .bool false, .string s, .int .u8 (b : Int), .int .i64 (b : Int), .int .i64 ((b : Int) - 247), .int .i64 ((b : Int) - 247), .bool false, undef, undef, undef, undef, undef, u21, u22, u23, u24, u25, u26, u27, u28, u29, u30, u31, u32, u33, u34, u35, u36, u37, u38, u39, u40, undef, undef, undef, undef, undef, undef, undef, undef, undef, undef, undef, undef], []⟩
/-- The rounds that are left. -/
def tkM (a' : Act) (_ : World) : Nat := (1 + intOf (a'.tmps.getD 5 undef) - intOf (a'.tmps.getD 7 undef)).toNat

set_option maxRecDepth 20000 in
set_option maxHeartbeats 1000000 in
theorem takeNum_hi (s : ByteArray) (w : World) (h0 : 0 < s.size) (h1 : 248 ≤ s[0].toNat) (hsz : s.size ≤ 9223372036854775807) :
    Calls Try.prog 71 #[.string s] w fun e w' => TakeEnd s.toList e ∧ Below w.heap.size w w' := by
  have he := isEmpty_of s h0
  have hb0 := UInt8.toNat_lt s[0]
  obtain ⟨t, ht, htl⟩ := toList_of_size s h0
  have Ht := Lib.hid ht
  have Htl := Lib.hid htl
  clear ht htl
  have hd0 : decide ((s[0].toNat : Int) - 247 ≤ 0) = false := by simp; omega
  go_enter Try.func71, Try.ntmps71
  go_wp2
  refine wp_scope_enter 0 (TkJ s s[0].toNat t w) tkM rfl ?_ ?_
  · intro hrest
    have Hrest := Lib.hid hrest
    clear hrest
    go_wp2
    go_step3
    rename_i hK
    exact hK _ _ (Hrest.out _ _ ⟨rfl, 0, 0, _, _, _, _, _, _, _, _, _, _, _, _, _, _, _, _, _, _, _, _, ⟨by omega, by omega, rfl⟩, rfl⟩)
  · rintro a' w' ⟨rfl, j, N, u21, u22, u23, u24, u25, u26, u27, u28, u29, u30, u31, u32, u33, u34, u35, u36, u37, u38, u39, u40, ⟨hj1, hj2, hN⟩, rfl⟩
    have HN := Lib.hid hN
    clear hN
    by_cases h7 : s[0].toNat = 255
    · have h7' : (7 : Int) < (s[0].toNat : Int) - 247 := by omega
      have H7 := Lib.hid h7
      clear h7
      go_wp2
      simp only [Exit.jump]
      go_ret3
      exact ⟨TakeEnd.bad (by rw [Ht.out]; exact takeN_short _ _ h1 (.inl H7.out)), Below.refl _ _⟩
    · have h7' : ¬ (7 : Int) < (s[0].toNat : Int) - 247 := by omega
      by_cases hs : t.length ≤ j
      · have hs' : (s.size : Int) ≤ (j : Int) + 1 := by have := Htl.out; omega
        have hj3 : j + 247 < s[0].toNat := by omega
        have Hl := Lib.hid (show t.length < s[0].toNat - 247 by omega)
        clear h7 hs
        go_wp2
        simp only [Exit.jump]
        go_ret3
        exact ⟨TakeEnd.bad (by rw [Ht.out]; exact takeN_short _ _ h1 (.inr Hl.out)), Below.refl _ _⟩
      · have hs' : (j : Int) + 1 < (s.size : Int) := by have := Htl.out; omega
        have hsN : j + 1 < s.size := by omega
        have hN2 : num (t.take (j + 1)) = N * 256 + s[j + 1].toNat := by
          rw [num_take_succ t j (by omega), ← HN.out]
          congr 2
          rw [getElem_toList]
          simp [Ht.out]
        have hNb : N ≤ 281474976710655 := by rw [HN.out]; exact num_take_le _ _ (by omega)
        have hor := bitsor_small N s[j + 1] hNb
        have hbj := UInt8.toNat_lt s[j + 1]
        have HN2 := Lib.hid hN2
        clear hN2
        by_cases hj : j + 249 ≤ s[0].toNat
        · go_wp2
          go_step3
          refine ⟨rfl, ⟨rfl, j + 1, N * 256 + s[j + 1].toNat, _, _, _, _, _, _, _, _, _, _, _, _, _, _, _, _, _, _, _, _, ⟨by omega, by omega, HN2.out.symm⟩, rfl⟩, ?_⟩
          simp [tkM, intOf]; omega
        · have hw : s[0].toNat - 247 = j + 1 := by omega
          have Hw := Lib.hid hw
          have hfull := takeN_full s[0] t h1 (by omega) (by omega) (N * 256 + s[j + 1].toNat) (by rw [hw]; exact HN2.out.symm)
          have Hfull := Lib.hid hfull
          have hjj : (s[0].toNat : Int) - 247 < (j : Int) + 1 + 1 := by omega
          clear hfull hw hj
          by_cases h247 : (N : Int) * 256 + (s[j + 1].toNat : Int) ≤ 247
          · have H247 := Lib.hid (show ¬ 247 < N * 256 + s[j + 1].toNat by omega)
            go_wp2
            simp only [Exit.jump]
            go_ret3
            exact ⟨TakeEnd.bad (by rw [Ht.out, Hfull.out, if_neg (fun h => H247.out h.1)]), Below.refl _ _⟩
          · by_cases hwd : (wid (N * 256 + s[j + 1].toNat) : Int) < (s[0].toNat : Int) - 247
            · have Hwd := Lib.hid (show ¬ (s[0].toNat - 247 ≤ wid (N * 256 + s[j + 1].toNat)) by omega)
              go_wp2_with (go_at_call 69; refine (width_int _ _ (by omega) (by omega)).mono ?_; rintro e w' ⟨rfl, rfl⟩)
              simp only [Exit.jump]
              go_ret3
              exact ⟨TakeEnd.bad (by rw [Ht.out, Hfull.out, if_neg (fun h => Hwd.out h.2)]), Below.refl _ _⟩
            · have Hwd := Lib.hid (show s[0].toNat - 247 ≤ wid (N * 256 + s[j + 1].toNat) by omega)
              go_wp2_with (go_at_call 69; refine (width_int _ _ (by omega) (by omega)).mono ?_; rintro e w' ⟨rfl, rfl⟩)
              go_quiet (fail)
              go_wp2
              simp only [Exit.jump]
              go_ret3
              refine ⟨TakeEnd.good (n := N * 256 + s[j + 1].toNat) (by rw [Ht.out, Hfull.out, if_pos ⟨by omega, Hwd.out⟩]) (by omega) ?_, below_drewN (Below.refl _ _) _⟩
              rw [toList_ext, Ht.out, Hw.out]
              have hl : ∀ m, m = j + 2 → ((s[0] :: t).drop m).take (s.size - m) = t.drop (j + 1) := by
                intro m hm
                subst hm
                rw [List.drop_succ_cons, List.take_of_length_le (by rw [List.length_drop]; have := Htl.out; omega)]
              exact hl _ (by omega)
end Go.Proofs.Ytnhbkfefpkocaaa
