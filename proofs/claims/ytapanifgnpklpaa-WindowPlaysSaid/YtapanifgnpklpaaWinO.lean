/-
  The law WindowPlays: the walk.
-/
import Derived.Test.YtapanifgnpklpaaWinN
import Derived.Test.YtapanifgnpklpaaWinJ
import Derived.Test.YtapanifgnpklpaaBitOF
namespace Go.Proofs.Ytapanifgnpklpaa
open Go.RowKit

theorem RefAt.only {w w' : World} {g r rs rt N : Nat} {vS vT : Value} {A S : List Bool} {T : Nat → Int × Int} (h : RefAt w r rs rt N vS vT A S T) (hg : w.grownBy w' (some g)) (hr : r ≠ g) (hs : rs ≠ g) (ht : rt ≠ g) : RefAt w' r rs rt N vS vT A S T := by
  obtain ⟨h1, h2, h3, h4, h5, h6, h7, Tt, h8, h9⟩ := h
  exact ⟨h1.only hg hr, h2, h3, h4, h5, h6, fun hN => (h7 hN).of_block (hg.block rs (h7 hN).lt (by simpa using hs)), Tt, fun hN => (h8 hN).of_block (hg.block rt (h8 hN).lt (by simpa using ht)), h9⟩
theorem ref_of_is (r rs rt N : Nat) (vS vT : Value) (A S : List Bool) (T : Nat → Int × Int) (s : Int) (L : List Bool) (X : List Int) (hX : listR L 0 = X) (hL : L.length = N) (hv : ∀ i, i < N → (stV A S i = s ↔ L.getD i false = true)) (hN : N ≤ 256) (w : World) (h : RefAt w r rs rt N vS vT A S T) :
    Calls Try.prog 26 #[.pointer (some ⟨r, 0, none⟩), .int .i64 s] w (RetS w X.length (intVals X)) := by subst hX; exact ref_of r rs rt N vS vT A S T s L hL hv hN w h
theorem of_fresh_is (n : Int) (A : Option Addr) (m c : Nat) (xs : List Int) (L : List Bool) (hL : ofB n xs = L) (w : World) (hx : xs.length = m) (hr : Rd w A (xs.map (Value.int .i64))) (hm : m ≤ 9223372036854775807) :
    Calls Try.prog 22 #[.int .i64 n, .slice A m c] w (fun e w' => ∃ Ao co, e = .returned (.tuple #[.agg #[.int .i64 (L.length : Nat), .int .u64 (wdN L 0 : Nat), .int .u64 (wdN L 1 : Nat), .int .u64 (wdN L 2 : Nat), .int .u64 (wdN L 3 : Nat)], .slice Ao L.length co]) ∧ L.length ≤ co ∧ co ≤ maxLen ∧ Rd w' Ao (L.map Value.bool) ∧ Below w.heap.size w w' ∧ ∀ ad, Ao = some ad → w.heap.size ≤ ad.block) := by
  subst hL
  exact of_fresh n A m c xs w hx hr hm
theorem same_self (A B : Option Addr) (c d : Nat) (X : List Int) (w : World) (hr : Rd w A (intVals X)) (hs : Rd w B (intVals X)) (hn : X.length ≤ 1000) :
    Calls Try.prog 20 #[.slice A X.length c, .slice B X.length d] w fun e w' => e = .returned (.bool true) ∧ Below w.heap.size w w' :=
  same_is A B X.length X.length c d X X true (by simp [sameI]) w rfl rfl hr hs hn hn

theorem refAck_ok' (r rs rt N : Nat) (vS vT : Value) (A S M : List Bool) (T : Nat → Int × Int) (w : World) (h : RefAt w r rs rt N vS vT A S T) (hM : M.length = N) (hN : N ≤ 256) (B : Option Addr) (c : Nat) (hr : Rd w B (M.map Value.bool)) (hBr : 0 < N → ∀ ad, B = some ad → ad.block ≠ rs) :
    Calls Try.prog 23 #[.pointer (some ⟨r, 0, none⟩), .slice B M.length c] w fun e w' => e = .returned (.bool true) ∧ RefAt w' r rs rt N vS vT M (offS S (listR (orB A M) 0)) (offT T (listR (orB A M) 0)) ∧ TwoF rs rt w w' := by
  have := refAck_ok r rs rt N vS vT A S M T w h hM hN B c hr hBr
  rw [hM]
  exact this
/-- What holds at each round. -/
def PlRel (w : World) (g r rs rt N : Nat) (vS vT : Value) (k : Nat) (now : Int) (wr : World) : Prop :=
  ∃ A S T, 0 ≤ now ∧ now ≤ 31 * (k : Int) ∧ WinAt wr g (N : Nat) A S T ∧ WInv N A S ∧ RefAt wr r rs rt N vS vT A S T ∧ Below w.heap.size w wr ∧ (0 < N → rs < wr.heap.size ∧ rt < wr.heap.size)

set_option maxRecDepth 20000 in
set_option maxHeartbeats 8000000 in
theorem windowPlays_walk (n : Int) (B : Option Addr) (m c0 : Nat) (w : World) (_l : -9223372036854775808 ≤ n) (_u : n ≤ 9223372036854775807) (hm : m ≤ 9223372036854775807) (hD : DeedsAt w B m) :
    Calls Try.prog 5 #[.int .i64 n, .slice B m c0] w (Yes w) := by
  obtain ⟨N, hN⟩ : ∃ N, clampB n = N := ⟨_, rfl⟩
  have hN256 : N ≤ 256 := by rw [← hN]; exact clampB_le n
  have hL : newB n = rng N 0 0 := by rw [rng_empty, ← hN]; rfl
  have HN := Lib.hid hN
  have HL0 := Lib.hid hL
  clear hN hL
  go_enter Try.func5, Try.ntmps5
  go_wp2_with fail
  (with_reducible refine (wnew_is n N (rng N 0 0) HN.out HL0.out _).mono ?_)
  rintro e w1 ⟨g, rfl, hg, hW1, hb1⟩
  go_wp2_with fail
  refine (ref_new n N HN.out _).mono ?_
  rintro e w2 ⟨r, rs, rt, vS, vT, rfl, hr, hrs, hrt, hrn, hR2, hb2⟩
  have hgl := hW1.lt
  have hrel0 : PlRel w g r rs rt N vS vT 0 0 w2 := ⟨_, _, _, by omega, by omega, hW1.below' hb2, winv_new N, hR2, bl hb1 hb2, hrn⟩
  have hrg : r ≠ g := by omega
  have hsg : rs ≠ g := by omega
  have htg : rt ≠ g := by omega
  have hbs1 := hb1.size
  have hwr : w.heap.size ≤ r := by omega
  have hws : w.heap.size ≤ rs := by omega
  have hwt : w.heap.size ≤ rt := by omega
  clear hW1 hb1 hR2 hb2 hrn hgl hr hrs hrt hbs1
  go_upto_region 4 with (fail)
  go_loopw [7, 8] (fun nw i wr => ∃ (k : Nat) (now : Int), k ≤ m ∧ k ≤ 60 ∧ i = .int .i64 k ∧ nw = .int .i64 now ∧ PlRel w g r rs rt N vS vT k now wr) (fun _ i _ => m - (intOf i).toNat)
  case atStart => exact ⟨0, 0, by omega, by omega, rfl, rfl, hrel0⟩
  case round =>
    clear hrel0
    obtain ⟨k, now, hkm, hk60, rfl, rfl, A, S, T, hn0, hn1, hW, hI, hR, hb, hrn⟩ := hrel
    by_cases hlt : (k : Int) < (m : Int)
    · by_cases h60 : (k : Int) < 60
      · obtain ⟨bb, oo, kd, td, sd, LA, ln, lc, xs, rfl, q0, q1, q2, q3, hxl, hln, hrL⟩ := (hD k (by omega)).below hb
        have hab := (Below.refl wr.heap.size wr).alloc (Nat.le_refl _) (.cells #[.int .i64 kd, .int .i64 td, .int .i64 sd, .slice LA ln lc] 50)
        have hX0 : Bk (wr.alloc (.cells #[.int .i64 kd, .int .i64 td, .int .i64 sd, .slice LA ln lc] 50)) wr.heap.size 50 #[.int .i64 kd, .int .i64 td, .int .i64 sd, .slice LA ln lc] := Bk.new _ _ _
        have hW0 := hW.below' hab
        have hR0 := hR.below' hab
        have hrL0 := hrL.below hab
        have hb0 : Below w.heap.size w (wr.alloc (.cells #[.int .i64 kd, .int .i64 td, .int .i64 sd, .slice LA ln lc] 50)) := below_then hb hab hb.size
        have hrn0 : 0 < N → rs < (wr.alloc (.cells #[.int .i64 kd, .int .i64 td, .int .i64 sd, .slice LA ln lc] 50)).heap.size ∧ rt < (wr.alloc (.cells #[.int .i64 kd, .int .i64 td, .int .i64 sd, .slice LA ln lc] 50)).heap.size := fun hp => ⟨Nat.lt_of_lt_of_le (hrn hp).1 hab.size, Nat.lt_of_lt_of_le (hrn hp).2 hab.size⟩
        have Hxl := Lib.hid hxl
        clear hxl hW hR hb hrL hab hrn
        obtain ⟨bk, hbk⟩ : ∃ bk : Bool, bk = decide (0 ≤ kd ∧ kd ≤ 2) := ⟨_, rfl⟩
        have Hbk := Lib.hid hbk
        clear hbk
        go_upto_region 7 with (fail)
        generalize wr.alloc (.cells #[.int .i64 kd, .int .i64 td, .int .i64 sd, .slice LA ln lc] 50) = w0 at *
        generalize wr.heap.size = hd at *
        clear q0 q1 q2 q3
        have q0 : w0.cell? ⟨hd, 0, none⟩ = some (.int .i64 kd) := hX0.cell 0
        go_cut [38] from 31 to 38 (fun v wx => v = .bool bk ∧ w0 = wx)
        case first =>
          by_cases h1 : kd < 0
          · have e : bk = false := by rw [Hbk.out]; exact decide_eq_false (by omega)
            have E := Lib.hid e
            clear e
            go_wp2_with fail
            go_meet
            case rel => exact ⟨by rw [E.out], rfl⟩
          · by_cases h2 : 2 < kd
            · have e : bk = false := by rw [Hbk.out]; exact decide_eq_false (by omega)
              have E := Lib.hid e
              clear e
              go_wp2_with fail
              go_meet
              case rel => exact ⟨by rw [E.out]; simp; omega, rfl⟩
            · have e : bk = true := by rw [Hbk.out]; exact decide_eq_true (by omega)
              have E := Lib.hid e
              clear e
              go_wp2_with fail
              go_meet
              case rel => exact ⟨by rw [E.out], rfl⟩
        case rest =>
          obtain ⟨rfl, rfl⟩ := hcut
          go_upto_if 38 with (fail)
          go_cut [7] from 17 to 102 (fun nw wx => ∃ now' : Int, nw = .int .i64 now' ∧ PlRel w g r rs rt N vS vT (k + 1) now' wx)
          case first =>
            have hA : A.length ≤ 256 := by rw [hI.1]; exact hN256
            have hS1 : S.length ≤ 256 := by rw [hI.2.1]; exact hN256
            cases bk with
            | true =>
              clear Hbk
              have q1 : w0.cell? ⟨hd, 1, none⟩ = some (.int .i64 td) := hX0.cell 1
              obtain ⟨y, hy, hy0, hy1⟩ : ∃ y, bits .and .i64 td 31 = y ∧ 0 ≤ y ∧ y ≤ 31 := ⟨_, and31 td, by omega, by omega⟩
              go_wp2_with fail
              refine (take_any g N A S T (now + y) _ hW0 hA hS1 hN256 (by omega) (by omega)).mono ?_
              rintro e w2 ⟨S1, T1, l1, A1, c1, h1, rfl, hc1, hm1, hr1, hf1, hW2, ho2⟩
              have hI1 := winv_take (now + y) N A S T hI N (Nat.le_refl _)
              rw [h1] at hI1
              have hI2 := hI1.1
              have hR2 := hR0.only ho2 hrg hsg htg
              have hb2 : Below w.heap.size w w2 := hb0.trans (below_only ho2 hg hb0.size)
              have hll : l1.length ≤ 256 := by have := (takeK_len (now + y) A S T N).2; rw [h1] at this; dsimp only at this; omega
              have hl0 : N = 0 → l1 = [] := fun e => by
                have := (takeK_len (now + y) A S T N).2
                rw [h1] at this
                dsimp only at this
                exact List.eq_nil_of_length_eq_zero (by omega)
              have hrn2 : 0 < N → rs < w2.heap.size ∧ rt < w2.heap.size := fun hp => ⟨Nat.lt_of_lt_of_le (hrn0 hp).1 ho2.size, Nat.lt_of_lt_of_le (hrn0 hp).2 ho2.size⟩
              have hA1 : 0 < N → ∀ ad, A1 = some ad → ad.block ≠ rs ∧ ad.block ≠ rt := fun hp ad h => by have := hf1 ad h; have := hrn0 hp; omega
              have H1 := Lib.hid h1
              clear h1 hI1 ho2 hW0 hX0 hrL0 hb0 hf1 q0 q1 hR0 hrn0
              go_wp2_with fail
              refine (ref_take r rs rt N vS vT A S T (now + y) _ hR2 hI hN256 (by omega) (by omega)).mono ?_
              rintro e w3 ⟨S2, T2, l2, A2, c2, h2, rfl, hc2, hm2, hr2, hf2, hR3, htf⟩
              rw [H1.out] at h2
              obtain ⟨rfl, rfl, rfl⟩ : S1 = S2 ∧ T1 = T2 ∧ l1 = l2 := by simpa using h2
              have hW3 := hW2.of_block (htf.2.2.2.2 g hW2.lt (Ne.symm hsg) (Ne.symm htg))
              have hr1' : Rd w3 A1 (intVals l1) := by
                rcases Nat.eq_zero_or_pos N with h0 | h0
                · rw [hl0 h0]; exact Rd.nil _ _
                · exact hr1.two htf (hA1 h0)
              have hb3 : Below w.heap.size w w3 := hb2.trans (htf.below hws hwt hb2.size)
              have hrn3 : 0 < N → rs < w3.heap.size ∧ rt < w3.heap.size := fun hp => ⟨Nat.lt_of_lt_of_le (hrn2 hp).1 htf.2.2.2.1, Nat.lt_of_lt_of_le (hrn2 hp).2 htf.2.2.2.1⟩
              clear h2 H1 hW2 hR2 hb2 hr1 hf2 htf hrn2 hA1 hl0
              go_wp2_with fail
              refine (same_self A1 A2 c1 c2 l1 _ hr1' hr2 (by omega)).mono ?_
              rintro e w4 ⟨rfl, hb4⟩
              have hfx : PlRel w g r rs rt N vS vT (k + 1) (now + y) w4 := ⟨A, S1, T1, by omega, by omega, hW3.below' hb4, hI2, hR3.below' hb4, below_then hb3 hb4 hb3.size, fun hp => ⟨Nat.lt_of_lt_of_le (hrn3 hp).1 hb4.size, Nat.lt_of_lt_of_le (hrn3 hp).2 hb4.size⟩⟩
              clear hW3 hR3 hb3 hb4 hr1' hr2 hrn3
              go_wp2_with fail
              go_meet
              case rel => exact ⟨now + y, rfl, hfx⟩
            | false =>
              clear Hbk q0
              obtain ⟨AS, cs, hvS, hNc, hcm, hAS⟩ := hR0.2.2.2.2.1
              have q2 : w0.cell? ⟨hd, 2, none⟩ = some (.int .i64 sd) := hX0.cell 2
              have q3 : w0.cell? ⟨hd, 3, none⟩ = some (.slice LA ln lc) := hX0.cell 3
              have p0 : w0.cell? ⟨r, 0, none⟩ = some (.slice AS N cs) := by rw [← hvS]; exact hR0.1.cell 0
              have HvS := Lib.hid hvS
              clear hvS
              by_cases hs0 : sd = 0
              · subst hs0
                obtain ⟨L, hL⟩ : ∃ L, ofB (N : Nat) xs = L := ⟨_, rfl⟩
                have hLl : L.length ≤ 256 := by rw [← hL, ofB_length]; exact clampB_le _
                have HL := Lib.hid hL
                clear hL
                go_wp2_with fail
                (with_reducible refine (of_fresh_is (N : Nat) LA ln lc xs L HL.out _ Hxl.out hrL0 hln).mono ?_)
                rintro e w2 ⟨Ao, co, rfl, hno, hmo, hro, hbo, hfo⟩
                have hbox := (Below.refl w2.heap.size w2).alloc (Nat.le_refl _) (.cells #[.int .i64 (L.length : Nat), .int .u64 (wdN L 0 : Nat), .int .u64 (wdN L 1 : Nat), .int .u64 (wdN L 2 : Nat), .int .u64 (wdN L 3 : Nat)] 39)
                have hS2 : SetAt (w2.alloc (.cells #[.int .i64 (L.length : Nat), .int .u64 (wdN L 0 : Nat), .int .u64 (wdN L 1 : Nat), .int .u64 (wdN L 2 : Nat), .int .u64 (wdN L 3 : Nat)] 39)) w2.heap.size L := SetAt.new w2 L
                have hbx := bl hbo hbox
                have hW2 := hW0.below' hbx
                have hR2 := hR0.below' hbx
                have hro2 := hro.below hbox
                have hb2 := below_then hb0 hbx hb0.size
                have hAo : 0 < N → ∀ ad, Ao = some ad → ad.block ≠ rs := fun hp ad h => by have := hfo ad h; have := hrn0 hp; omega
                have hAg : ∀ ad, Ao = some ad → ad.block ≠ g := fun ad h => by have := hfo ad h; have := hW0.lt; omega
                have hrn2 : 0 < N → rs < (w2.alloc (.cells #[.int .i64 (L.length : Nat), .int .u64 (wdN L 0 : Nat), .int .u64 (wdN L 1 : Nat), .int .u64 (wdN L 2 : Nat), .int .u64 (wdN L 3 : Nat)] 39)).heap.size ∧ rt < (w2.alloc (.cells #[.int .i64 (L.length : Nat), .int .u64 (wdN L 0 : Nat), .int .u64 (wdN L 1 : Nat), .int .u64 (wdN L 2 : Nat), .int .u64 (wdN L 3 : Nat)] 39)).heap.size := fun hp => ⟨Nat.lt_of_lt_of_le (hrn0 hp).1 hbx.size, Nat.lt_of_lt_of_le (hrn0 hp).2 hbx.size⟩
                clear hW0 hR0 hrL0 hb0 hX0 q2 q3 p0 hbo hbox hbx hfo hro hrn0
                go_upto_region 15 with (fail)
                generalize w2.alloc (.cells #[.int .i64 (L.length : Nat), .int .u64 (wdN L 0 : Nat), .int .u64 (wdN L 1 : Nat), .int .u64 (wdN L 2 : Nat), .int .u64 (wdN L 3 : Nat)] 39) = w3 at *
                obtain ⟨f0, f1, f2, f3, f4⟩ := hS2.cells
                by_cases hLN : L.length = N
                · have HLN := Lib.hid hLN
                  have hIq := winv_ack N A S L hI hLN
                  clear hLN
                  go_wp2_with fail
                  (with_reducible refine (ack_ok g (N : Nat) A S L T _ hW2 (by rw [HLN.out]) hA hLl hS1).mono ?_)
                  rintro e w5 ⟨rfl, hW5, ho5⟩
                  have hR5 := hR2.only ho5 hrg hsg htg
                  have hro5 := hro2.win ho5 hAg
                  have hb5 : Below w.heap.size w w5 := hb2.trans (below_only ho5 hg hb2.size)
                  have hrn5 : 0 < N → rs < w5.heap.size ∧ rt < w5.heap.size := fun hp => ⟨Nat.lt_of_lt_of_le (hrn2 hp).1 ho5.size, Nat.lt_of_lt_of_le (hrn2 hp).2 ho5.size⟩
                  clear f0 f1 f2 f3 f4 hS2 hW2 hR2 hro2 hb2 hrn2 ho5
                  go_wp2_with fail
                  refine (refAck_ok' r rs rt N vS vT A S L T _ hR5 HLN.out hN256 Ao co hro5 hAo).mono ?_
                  rintro e w6 ⟨rfl, hR6, htf⟩
                  have hW6 := hW5.of_block (htf.2.2.2.2 g hW5.lt (Ne.symm hsg) (Ne.symm htg))
                  have hfx : PlRel w g r rs rt N vS vT (k + 1) now w6 := ⟨L, _, _, by omega, by omega, hW6, hIq, hR6, hb5.trans (htf.below hws hwt hb5.size), fun hp => ⟨Nat.lt_of_lt_of_le (hrn5 hp).1 htf.2.2.2.1, Nat.lt_of_lt_of_le (hrn5 hp).2 htf.2.2.2.1⟩⟩
                  clear hW5 hR5 hro5 hb5 hrn5 hR6 htf hW6 hIq
                  go_wp2_with fail
                  go_meet
                  case rel => exact ⟨now, rfl, hfx⟩
                · have HLN := Lib.hid hLN
                  clear hLN
                  go_wp2_with fail
                  (with_reducible refine (ack_bad g (N : Nat) A S L T _ hW2 (fun e => absurd (show L.length = N by omega) HLN.out)).mono ?_)
                  rintro e w5 ⟨rfl, hb5⟩
                  have hR5 := hR2.below' hb5
                  have hW5 := hW2.below' hb5
                  have hbw := below_then hb2 hb5 hb2.size
                  have hfx : PlRel w g r rs rt N vS vT (k + 1) now w5 := ⟨A, S, T, by omega, by omega, hW5, hI, hR5, hbw, fun hp => ⟨Nat.lt_of_lt_of_le (hrn2 hp).1 hb5.size, Nat.lt_of_lt_of_le (hrn2 hp).2 hb5.size⟩⟩
                  clear f0 f1 f2 f3 f4 hS2 hW2 hR2 hro2 hb2 hrn2 hb5 hW5 hbw
                  go_wp2_with fail
                  refine (refAck_bad r rs rt N vS vT A S T _ hR5 Ao L.length co HLN.out).mono ?_
                  rintro e w6 ⟨rfl, rfl⟩
                  clear hR5
                  go_wp2_with fail
                  go_meet
                  case rel => exact ⟨now, rfl, hfx⟩
              · have hsb : (sd == 0) = false := by simp [hs0]
                have Hs0 := Lib.hid hs0
                clear hs0
                obtain ⟨L, hL⟩ : ∃ L, ofB (sd) xs = L := ⟨_, rfl⟩
                have hLl : L.length ≤ 256 := by rw [← hL, ofB_length]; exact clampB_le _
                have HL := Lib.hid hL
                clear hL
                go_wp2_with fail
                (with_reducible refine (of_fresh_is (sd) LA ln lc xs L HL.out _ Hxl.out hrL0 hln).mono ?_)
                rintro e w2 ⟨Ao, co, rfl, hno, hmo, hro, hbo, hfo⟩
                have hbox := (Below.refl w2.heap.size w2).alloc (Nat.le_refl _) (.cells #[.int .i64 (L.length : Nat), .int .u64 (wdN L 0 : Nat), .int .u64 (wdN L 1 : Nat), .int .u64 (wdN L 2 : Nat), .int .u64 (wdN L 3 : Nat)] 39)
                have hS2 : SetAt (w2.alloc (.cells #[.int .i64 (L.length : Nat), .int .u64 (wdN L 0 : Nat), .int .u64 (wdN L 1 : Nat), .int .u64 (wdN L 2 : Nat), .int .u64 (wdN L 3 : Nat)] 39)) w2.heap.size L := SetAt.new w2 L
                have hbx := bl hbo hbox
                have hW2 := hW0.below' hbx
                have hR2 := hR0.below' hbx
                have hro2 := hro.below hbox
                have hb2 := below_then hb0 hbx hb0.size
                have hAo : 0 < N → ∀ ad, Ao = some ad → ad.block ≠ rs := fun hp ad h => by have := hfo ad h; have := hrn0 hp; omega
                have hAg : ∀ ad, Ao = some ad → ad.block ≠ g := fun ad h => by have := hfo ad h; have := hW0.lt; omega
                have hrn2 : 0 < N → rs < (w2.alloc (.cells #[.int .i64 (L.length : Nat), .int .u64 (wdN L 0 : Nat), .int .u64 (wdN L 1 : Nat), .int .u64 (wdN L 2 : Nat), .int .u64 (wdN L 3 : Nat)] 39)).heap.size ∧ rt < (w2.alloc (.cells #[.int .i64 (L.length : Nat), .int .u64 (wdN L 0 : Nat), .int .u64 (wdN L 1 : Nat), .int .u64 (wdN L 2 : Nat), .int .u64 (wdN L 3 : Nat)] 39)).heap.size := fun hp => ⟨Nat.lt_of_lt_of_le (hrn0 hp).1 hbx.size, Nat.lt_of_lt_of_le (hrn0 hp).2 hbx.size⟩
                clear hW0 hR0 hrL0 hb0 hX0 q2 q3 p0 hbo hbox hbx hfo hro hrn0
                go_upto_region 15 with (fail)
                generalize w2.alloc (.cells #[.int .i64 (L.length : Nat), .int .u64 (wdN L 0 : Nat), .int .u64 (wdN L 1 : Nat), .int .u64 (wdN L 2 : Nat), .int .u64 (wdN L 3 : Nat)] 39) = w3 at *
                obtain ⟨f0, f1, f2, f3, f4⟩ := hS2.cells
                by_cases hLN : L.length = N
                · have HLN := Lib.hid hLN
                  have hIq := winv_ack N A S L hI hLN
                  clear hLN
                  go_wp2_with fail
                  (with_reducible refine (ack_ok g (N : Nat) A S L T _ hW2 (by rw [HLN.out]) hA hLl hS1).mono ?_)
                  rintro e w5 ⟨rfl, hW5, ho5⟩
                  have hR5 := hR2.only ho5 hrg hsg htg
                  have hro5 := hro2.win ho5 hAg
                  have hb5 : Below w.heap.size w w5 := hb2.trans (below_only ho5 hg hb2.size)
                  have hrn5 : 0 < N → rs < w5.heap.size ∧ rt < w5.heap.size := fun hp => ⟨Nat.lt_of_lt_of_le (hrn2 hp).1 ho5.size, Nat.lt_of_lt_of_le (hrn2 hp).2 ho5.size⟩
                  clear f0 f1 f2 f3 f4 hS2 hW2 hR2 hro2 hb2 hrn2 ho5
                  go_wp2_with fail
                  refine (refAck_ok' r rs rt N vS vT A S L T _ hR5 HLN.out hN256 Ao co hro5 hAo).mono ?_
                  rintro e w6 ⟨rfl, hR6, htf⟩
                  have hW6 := hW5.of_block (htf.2.2.2.2 g hW5.lt (Ne.symm hsg) (Ne.symm htg))
                  have hfx : PlRel w g r rs rt N vS vT (k + 1) now w6 := ⟨L, _, _, by omega, by omega, hW6, hIq, hR6, hb5.trans (htf.below hws hwt hb5.size), fun hp => ⟨Nat.lt_of_lt_of_le (hrn5 hp).1 htf.2.2.2.1, Nat.lt_of_lt_of_le (hrn5 hp).2 htf.2.2.2.1⟩⟩
                  clear hW5 hR5 hro5 hb5 hrn5 hR6 htf hW6 hIq
                  go_wp2_with fail
                  go_meet
                  case rel => exact ⟨now, rfl, hfx⟩
                · have HLN := Lib.hid hLN
                  clear hLN
                  go_wp2_with fail
                  (with_reducible refine (ack_bad g (N : Nat) A S L T _ hW2 (fun e => absurd (show L.length = N by omega) HLN.out)).mono ?_)
                  rintro e w5 ⟨rfl, hb5⟩
                  have hR5 := hR2.below' hb5
                  have hW5 := hW2.below' hb5
                  have hbw := below_then hb2 hb5 hb2.size
                  have hfx : PlRel w g r rs rt N vS vT (k + 1) now w5 := ⟨A, S, T, by omega, by omega, hW5, hI, hR5, hbw, fun hp => ⟨Nat.lt_of_lt_of_le (hrn2 hp).1 hb5.size, Nat.lt_of_lt_of_le (hrn2 hp).2 hb5.size⟩⟩
                  clear f0 f1 f2 f3 f4 hS2 hW2 hR2 hro2 hb2 hrn2 hb5 hW5 hbw
                  go_wp2_with fail
                  refine (refAck_bad r rs rt N vS vT A S T _ hR5 Ao L.length co HLN.out).mono ?_
                  rintro e w6 ⟨rfl, rfl⟩
                  clear hR5
                  go_wp2_with fail
                  go_meet
                  case rel => exact ⟨now, rfl, hfx⟩
          case rest =>
            obtain ⟨now', rfl, A', S', T', hn0', hn1', hWr, hIr, hRr, hbr, hrnr⟩ := hcut
            have hA : A'.length ≤ 256 := by rw [hIr.1]; exact hN256
            have hS1 : S'.length ≤ 256 := by rw [hIr.2.1]; exact hN256
            have hAN := Lib.hid (show (A'.length : Int) = (N : Nat) by rw [hIr.1])
            have hAl := Lib.hid hIr.1
            have hSl := Lib.hid hIr.2.1
            have hv1 : ∀ i, i < N → (stV A' S' i = 1 ↔ S'.getD i false = true) := fun i _ => (stV_of A' S' i (hIr.2.2.2 i)).1
            have hv2 : ∀ i, i < N → (stV A' S' i = 2 ↔ A'.getD i false = true) := fun i _ => (stV_of A' S' i (hIr.2.2.2 i)).2
            have Hv1 := Lib.hid hv1
            have Hv2 := Lib.hid hv2
            obtain ⟨X1, hX1⟩ : ∃ X, listR S' 0 = X := ⟨_, rfl⟩
            obtain ⟨X2, hX2⟩ : ∃ X, listR A' 0 = X := ⟨_, rfl⟩
            have hl1 : X1.length ≤ 1000 := by have := listR_length S' 0; rw [hX1] at this; omega
            have hl2 : X2.length ≤ 1000 := by have := listR_length A' 0; rw [hX2] at this; omega
            have HX1 := Lib.hid hX1
            have HX2 := Lib.hid hX2
            obtain ⟨AS, cs, hvS, hNc, hcm, hAS⟩ := hRr.2.2.2.2.1
            have HvS := Lib.hid hvS
            have hBr := hRr.1
            have p0 : wc.cell? ⟨r, 0, none⟩ = some (.slice AS N cs) := by rw [← hvS]; exact hBr.cell 0
            clear hv1 hv2 hX1 hX2 hvS hBr
            go_upto_region 17 with (fail)
            have hcw : Below wc.heap.size wc wc.drew ∧ wc.drew.cell? ⟨r, 0, none⟩ = some (.slice AS N cs) := ⟨(Below.refl _ _).drew, p0⟩
            have hfin : ∀ wx, Below wc.heap.size wc wx → PlRel w g r rs rt N vS vT (k + 1) now' wx := fun wx hbx => ⟨A', S', T', hn0', hn1', hWr.below' hbx, hIr, hRr.below' hbx, below_then hbr hbx hbr.size, fun hp => ⟨Nat.lt_of_lt_of_le (hrnr hp).1 hbx.size, Nat.lt_of_lt_of_le (hrnr hp).2 hbx.size⟩⟩
            refine wp_region_held_drew (S := fun w' => Below wc.heap.size wc w' ∧ w'.cell? ⟨r, 0, none⟩ = some (.slice AS N cs)) (by kernel_rfl) hcw (fun _ => ?_)
            refine anyH_take (i := 0) (v := ?_) rfl (by kernel_rfl) (by kernel_rfl) (by kernel_rfl) (fun _ _ _ h => h) (by rfl) ?_ (by assumption) ?_
            rotate_left
            · intro w' hSw; (try dsimp only at hSw); go_simp; (try with_reducible rfl)
            try simp only [Act.put, List.setIfInBounds_toArray, List.set_cons_zero, List.set_cons_succ]
            refine anyH_take (i := 3) (v := ?_) rfl (by kernel_rfl) (by kernel_rfl) (by kernel_rfl) (fun _ _ _ h => h) (by rfl) ?_ (by assumption) ?_
            rotate_left
            · intro w' hSw; (try dsimp only at hSw); go_simp; (try with_reducible rfl)
            try simp only [Act.put, List.setIfInBounds_toArray, List.set_cons_zero, List.set_cons_succ]
            refine anyH_call (i := 1) rfl (by kernel_rfl) (by rfl) (fun K hK => ?_)
            go_simp
            go_at_call 24; (with_reducible refine (flight_is g _ _ _ _ _ (hWr.below' (And.left (by assumption)))).mono ?_); rintro e wa ⟨rfl, hbx⟩; have hX := heldb hbx (by assumption)
            refine hK.out _ _ hX (fun _ => ?_)
            clear hK K
            try simp only [Act.put, List.setIfInBounds_toArray, List.set_cons_zero, List.set_cons_succ]
            refine anyH_call (i := 2) rfl (by kernel_rfl) (by rfl) (fun K hK => ?_)
            go_simp
            first | (go_at_call 25; (with_reducible refine (list_is S' X1 HX1.out _ hS1).mono ?_); rintro e wl ⟨Al, cl, rfl, hnl, hml, hrX, hfl, hbx⟩; have hX := heldb hbx (by assumption)) | (go_at_call 25; (with_reducible refine (list_is A' X2 HX2.out _ hA).mono ?_); rintro e wl ⟨Al, cl, rfl, hnl, hml, hrX, hfl, hbx⟩; have hX := heldb hbx (by assumption))
            refine hK.out _ _ hX (fun _ => ?_)
            clear hK K
            try simp only [Act.put, List.setIfInBounds_toArray, List.set_cons_zero, List.set_cons_succ]
            refine anyH_call (i := 4) rfl (by kernel_rfl) (by rfl) (fun K hK => ?_)
            go_simp
            first | (go_at_call 26; (with_reducible refine (ref_of_is r rs rt N vS vT A' S' T' 1 S' X1 HX1.out hSl.out Hv1.out hN256 _ (hRr.below' (And.left (by assumption)))).mono ?_); rintro e wf ⟨Af, cf, rfl, hnf, hmf, hrY, hff, hby⟩; have hX := heldb hby (by assumption)) | (go_at_call 26; (with_reducible refine (ref_of_is r rs rt N vS vT A' S' T' 2 A' X2 HX2.out hAl.out Hv2.out hN256 _ (hRr.below' (And.left (by assumption)))).mono ?_); rintro e wf ⟨Af, cf, rfl, hnf, hmf, hrY, hff, hby⟩; have hX := heldb hby (by assumption))
            refine hK.out _ _ hX (fun _ => ?_)
            clear hK K
            try simp only [Act.put, List.setIfInBounds_toArray, List.set_cons_zero, List.set_cons_succ]
            refine anyH_call (i := 5) rfl (by kernel_rfl) (by rfl) (fun K hK => ?_)
            go_simp
            first | (go_at_call 20; (with_reducible refine (same_self Al Af cl cf X1 _ (hrX.below hby) hrY hl1).mono ?_); rintro e wa ⟨rfl, hbx⟩; have hX := heldb hbx (by assumption)) | (go_at_call 20; (with_reducible refine (same_self Al Af cl cf X2 _ (hrX.below hby) hrY hl2).mono ?_); rintro e wa ⟨rfl, hbx⟩; have hX := heldb hbx (by assumption))
            refine hK.out _ _ hX (fun _ => ?_)
            clear hK K
            try simp only [Act.put, List.setIfInBounds_toArray, List.set_cons_zero, List.set_cons_succ]
            refine anyH_take (i := 6) (v := ?_) rfl (by kernel_rfl) (by kernel_rfl) (by kernel_rfl) (fun _ _ _ h => h) (by rfl) ?_ (by assumption) ?_
            rotate_left
            · intro w' hSw; (try dsimp only at hSw); go_simp; (try with_reducible rfl)
            try simp only [Act.put, List.setIfInBounds_toArray, List.set_cons_zero, List.set_cons_succ]
            refine anyH_take (i := 7) (v := ?_) rfl (by kernel_rfl) (by kernel_rfl) (by kernel_rfl) (fun _ _ _ h => h) (by rfl) ?_ (by assumption) ?_
            rotate_left
            · intro w' hSw; (try dsimp only at hSw); go_simp; (try with_reducible rfl)
            try simp only [Act.put, List.setIfInBounds_toArray, List.set_cons_zero, List.set_cons_succ]
            refine anyH_take (i := 8) (v := ?_) rfl (by kernel_rfl) (by kernel_rfl) (by kernel_rfl) (fun _ _ _ h => h) (by rfl) ?_ (by assumption) ?_
            rotate_left
            · intro w' hSw; (try dsimp only at hSw); go_simp; (try with_reducible rfl)
            try simp only [Act.put, List.setIfInBounds_toArray, List.set_cons_zero, List.set_cons_succ]
            refine anyH_take (i := 11) (v := ?_) rfl (by kernel_rfl) (by kernel_rfl) (by kernel_rfl) (fun _ _ _ h => h) (by rfl) ?_ (by assumption) ?_
            rotate_left
            · intro w' hSw; (try dsimp only at hSw); go_simp; (try with_reducible rfl)
            try simp only [Act.put, List.setIfInBounds_toArray, List.set_cons_zero, List.set_cons_succ]
            refine anyH_call (i := 9) rfl (by kernel_rfl) (by rfl) (fun K hK => ?_)
            go_simp
            go_at_call 13; (with_reducible refine (acked_is g _ _ _ _ _ (hWr.below' (And.left (by assumption)))).mono ?_); rintro e wa ⟨rfl, hbx⟩; have hX := heldb hbx (by assumption)
            refine hK.out _ _ hX (fun _ => ?_)
            clear hK K
            try simp only [Act.put, List.setIfInBounds_toArray, List.set_cons_zero, List.set_cons_succ]
            refine anyH_call (i := 10) rfl (by kernel_rfl) (by rfl) (fun K hK => ?_)
            go_simp
            first | (go_at_call 25; (with_reducible refine (list_is S' X1 HX1.out _ hS1).mono ?_); rintro e wl ⟨Al, cl, rfl, hnl, hml, hrX, hfl, hbx⟩; have hX := heldb hbx (by assumption)) | (go_at_call 25; (with_reducible refine (list_is A' X2 HX2.out _ hA).mono ?_); rintro e wl ⟨Al, cl, rfl, hnl, hml, hrX, hfl, hbx⟩; have hX := heldb hbx (by assumption))
            refine hK.out _ _ hX (fun _ => ?_)
            clear hK K
            try simp only [Act.put, List.setIfInBounds_toArray, List.set_cons_zero, List.set_cons_succ]
            refine anyH_call (i := 12) rfl (by kernel_rfl) (by rfl) (fun K hK => ?_)
            go_simp
            first | (go_at_call 26; (with_reducible refine (ref_of_is r rs rt N vS vT A' S' T' 1 S' X1 HX1.out hSl.out Hv1.out hN256 _ (hRr.below' (And.left (by assumption)))).mono ?_); rintro e wf ⟨Af, cf, rfl, hnf, hmf, hrY, hff, hby⟩; have hX := heldb hby (by assumption)) | (go_at_call 26; (with_reducible refine (ref_of_is r rs rt N vS vT A' S' T' 2 A' X2 HX2.out hAl.out Hv2.out hN256 _ (hRr.below' (And.left (by assumption)))).mono ?_); rintro e wf ⟨Af, cf, rfl, hnf, hmf, hrY, hff, hby⟩; have hX := heldb hby (by assumption))
            refine hK.out _ _ hX (fun _ => ?_)
            clear hK K
            try simp only [Act.put, List.setIfInBounds_toArray, List.set_cons_zero, List.set_cons_succ]
            refine anyH_call (i := 13) rfl (by kernel_rfl) (by rfl) (fun K hK => ?_)
            go_simp
            first | (go_at_call 20; (with_reducible refine (same_self Al Af cl cf X1 _ (hrX.below hby) hrY hl1).mono ?_); rintro e wa ⟨rfl, hbx⟩; have hX := heldb hbx (by assumption)) | (go_at_call 20; (with_reducible refine (same_self Al Af cl cf X2 _ (hrX.below hby) hrY hl2).mono ?_); rintro e wa ⟨rfl, hbx⟩; have hX := heldb hbx (by assumption))
            refine hK.out _ _ hX (fun _ => ?_)
            clear hK K
            try simp only [Act.put, List.setIfInBounds_toArray, List.set_cons_zero, List.set_cons_succ]
            refine anyH_take (i := 14) (v := ?_) rfl (by kernel_rfl) (by kernel_rfl) (by kernel_rfl) (fun _ _ _ h => h) (by rfl) ?_ (by assumption) ?_
            rotate_left
            · intro w' hSw; (try dsimp only at hSw); go_simp; (try with_reducible rfl)
            try simp only [Act.put, List.setIfInBounds_toArray, List.set_cons_zero, List.set_cons_succ]
            refine anyH_take (i := 15) (v := ?_) rfl (by kernel_rfl) (by kernel_rfl) (by kernel_rfl) (fun _ _ _ h => h) (by rfl) ?_ (by assumption) ?_
            rotate_left
            · intro w' hSw; (try dsimp only at hSw); go_simp; (try with_reducible rfl)
            try simp only [Act.put, List.setIfInBounds_toArray, List.set_cons_zero, List.set_cons_succ]
            refine anyH_take (i := 16) (v := ?_) rfl (by kernel_rfl) (by kernel_rfl) (by kernel_rfl) (fun _ _ _ h => h) (by rfl) ?_ (by assumption) ?_
            rotate_left
            · intro w' hSw; (try dsimp only at hSw); go_simp; (try with_reducible rfl)
            try simp only [Act.put, List.setIfInBounds_toArray, List.set_cons_zero, List.set_cons_succ]
            refine anyH_take (i := 17) (v := ?_) rfl (by kernel_rfl) (by kernel_rfl) (by kernel_rfl) (fun _ _ _ h => h) (by rfl) ?_ (by assumption) ?_
            rotate_left
            · intro w' hSw; (try dsimp only at hSw); go_simp; (try with_reducible rfl)
            try simp only [Act.put, List.setIfInBounds_toArray, List.set_cons_zero, List.set_cons_succ]
            refine anyH_take (i := 20) (v := ?_) rfl (by kernel_rfl) (by kernel_rfl) (by kernel_rfl) (fun _ _ _ h => h) (by rfl) ?_ (by assumption) ?_
            rotate_left
            · intro w' hSw; (try dsimp only at hSw); go_simp; (try with_reducible rfl)
            try simp only [Act.put, List.setIfInBounds_toArray, List.set_cons_zero, List.set_cons_succ]
            refine anyH_take (i := 21) (v := ?_) rfl (by kernel_rfl) (by kernel_rfl) (by kernel_rfl) (fun _ _ _ h => h) (by rfl) ?_ (by assumption) ?_
            rotate_left
            · intro w' hSw; (try dsimp only at hSw); go_simp; (try with_reducible rfl)
            try simp only [Act.put, List.setIfInBounds_toArray, List.set_cons_zero, List.set_cons_succ]
            refine anyH_take (i := 22) (v := ?_) rfl (by kernel_rfl) (by kernel_rfl) (by kernel_rfl) (fun _ _ _ h => h) (by rfl) ?_ (by assumption) ?_
            rotate_left
            · intro w' hSw; (try dsimp only at hSw); go_simp; (try with_reducible rfl)
            try simp only [Act.put, List.setIfInBounds_toArray, List.set_cons_zero, List.set_cons_succ]
            refine anyH_take (i := 23) (v := ?_) rfl (by kernel_rfl) (by kernel_rfl) (by kernel_rfl) (fun _ _ _ h => h) (by rfl) ?_ (by assumption) ?_
            rotate_left
            · intro w' hSw; (try dsimp only at hSw); go_simp; (try with_reducible rfl)
            try simp only [Act.put, List.setIfInBounds_toArray, List.set_cons_zero, List.set_cons_succ]
            refine anyH_take (i := 24) (v := ?_) rfl (by kernel_rfl) (by kernel_rfl) (by kernel_rfl) (fun _ _ _ h => h) (by rfl) ?_ (by assumption) ?_
            rotate_left
            · intro w' hSw; (try dsimp only at hSw); go_simp; (try with_reducible rfl)
            try simp only [Act.put, List.setIfInBounds_toArray, List.set_cons_zero, List.set_cons_succ]
            refine anyH_call (i := 18) rfl (by kernel_rfl) (by rfl) (fun K hK => ?_)
            go_simp
            go_at_call 13; (with_reducible refine (acked_is g _ _ _ _ _ (hWr.below' (And.left (by assumption)))).mono ?_); rintro e wa ⟨rfl, hbx⟩; have hX := heldb hbx (by assumption)
            refine hK.out _ _ hX (fun _ => ?_)
            clear hK K
            try simp only [Act.put, List.setIfInBounds_toArray, List.set_cons_zero, List.set_cons_succ]
            refine anyH_call (i := 19) rfl (by kernel_rfl) (by rfl) (fun K hK => ?_)
            go_simp
            go_at_call 14; (with_reducible refine (size_is A' (N : Nat) hAN.out _).mono ?_); rintro e wa ⟨rfl, hbx⟩; have hX := heldb hbx (by assumption)
            refine hK.out _ _ hX (fun _ => ?_)
            clear hK K
            try simp only [Act.put, List.setIfInBounds_toArray, List.set_cons_zero, List.set_cons_succ]
            refine anyH_take (i := 25) (v := ?_) rfl (by kernel_rfl) (by kernel_rfl) (by kernel_rfl) (fun _ _ _ h => h) (by rfl) ?_ (by assumption) ?_
            rotate_left
            · intro w' hSw; (try dsimp only at hSw); go_simp; (try with_reducible rfl)
            try simp only [Act.put, List.setIfInBounds_toArray, List.set_cons_zero, List.set_cons_succ]
            refine anyH_take (i := 26) (v := ?_) rfl (by kernel_rfl) (by kernel_rfl) (by kernel_rfl) (fun _ _ _ h => h) (by rfl) ?_ (by assumption) ?_
            rotate_left
            · intro w' hSw; (try dsimp only at hSw); go_simp; (try with_reducible rfl)
            try simp only [Act.put, List.setIfInBounds_toArray, List.set_cons_zero, List.set_cons_succ]
            refine wpAnyH_done (by kernel_rfl) ?_ _
            have hfx := hfin _ hX.1
            clear hX hcw hfin hWr hRr hbr
            go_wp2_with fail
            go_roundw
            case rel => exact ⟨k + 1, now', by omega, by omega, by go_num, rfl, hfx⟩
            case measure => simp [intOf]; omega
      · go_wp2_with fail
        refine (awake_any _).mono ?_
        rintro e w9 ⟨rfl, hb9⟩
        go_wp2_with fail
        go_ret
        exact ⟨rfl, below_then hb hb9 hb.size⟩
    · go_wp2_with fail
      refine (awake_any _).mono ?_
      rintro e w9 ⟨rfl, hb9⟩
      go_wp2_with fail
      go_ret
      exact ⟨rfl, below_then hb hb9 hb.size⟩
end Go.Proofs.Ytapanifgnpklpaa
