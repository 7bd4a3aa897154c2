/-
  The walk of Take.
-/
import Derived.Test.YtapanifgnpklpaaWinC
import Derived.Test.YtapanifgnpklpaaBitC
namespace Go.Proofs.Ytapanifgnpklpaa
open Go.RowKit

theorem has_is (L : List Bool) (i : Int) (b : Bool) (h : hasB L i = b) (w : World) (hL : L.length ≤ 256) : Calls Try.prog 27 #[.agg #[.int .i64 (L.length : Nat), .int .u64 (wdN L 0 : Nat), .int .u64 (wdN L 1 : Nat), .int .u64 (wdN L 2 : Nat), .int .u64 (wdN L 3 : Nat)], .int .i64 i] w fun e w' => e = .returned (.bool b) ∧ Below w.heap.size w w' := by subst h; exact has_any L i w hL
theorem count_is (L : List Bool) (c : Int) (h : (cntP L L.length : Int) = c) (w : World) (hL : L.length ≤ 256) : Calls Try.prog 28 #[.agg #[.int .i64 (L.length : Nat), .int .u64 (wdN L 0 : Nat), .int .u64 (wdN L 1 : Nat), .int .u64 (wdN L 2 : Nat), .int .u64 (wdN L 3 : Nat)]] w fun e w' => e = .returned (.int .i64 c) ∧ Below w.heap.size w w' := by subst h; exact count_any L w hL
theorem with_is (L : List Bool) (i : Int) (M : List Bool) (h : setB L i true = M) (w : World) (hL : L.length ≤ 256) : Calls Try.prog 16 #[.agg #[.int .i64 (L.length : Nat), .int .u64 (wdN L 0 : Nat), .int .u64 (wdN L 1 : Nat), .int .u64 (wdN L 2 : Nat), .int .u64 (wdN L 3 : Nat)], .int .i64 i] w fun e w' => e = .returned (.agg #[.int .i64 (M.length : Nat), .int .u64 (wdN M 0 : Nat), .int .u64 (wdN M 1 : Nat), .int .u64 (wdN M 2 : Nat), .int .u64 (wdN M 3 : Nat)]) ∧ Below w.heap.size w w' := by subst h; exact with_any L i w hL
theorem fire_agg (d c now d' c' : Int) (b : Bool) (hr : fireW (d, c) now = ((d', c'), b)) (w : World) (h1 : -1000000000000 ≤ now) (h2 : now ≤ 1000000000000) :
    Calls Try.prog 8 #[.agg #[.int .i64 d, .int .i64 c], .int .i64 now] w fun e w' => e = .returned (.tuple #[.agg #[.int .i64 d', .int .i64 c'], .bool b]) ∧ Below w.heap.size w w' := fire_is d c now _ hr w h1 h2
theorem only_then {w wr w1 : World} {g : Nat} (h : w.grownBy wr (some g)) (h2 : Below w.heap.size wr w1) : w.grownBy w1 (some g) :=
  ⟨h2.os.trans h.os, h2.tape.trans h.tape, h2.output.trans h.output, Nat.le_trans h.size h2.size, fun k hk hne => (h2.block k hk).trans (h.block k hk hne)⟩
theorem own_only {w w' : World} {base size n g : Nat} {e : TypeId} {v : Value} {xs : List Value} (h : w.ownsRow base e size v n xs) (hg : w.grownBy w' (some g)) (hb : g < base) : w'.ownsRow base e size v n xs :=
  h.kept hg (by
    by_cases hv : v.ownBlock = none
    · exact Or.inl hv
    · refine Or.inr fun e => ?_
      have := (h.lt g e).1
      omega)

/-- One block in Take: its timer, what comes of it, and whether it is looked at. -/
def takeT (now : Int) (S : List Bool) (T : Nat → Int × Int) (i : Nat) : Nat → Int × Int := if S.getD i false = true then T else upd T i (now, 2)
def takeF (now : Int) (S : List Bool) (T1 : Nat → Int × Int) (l : List Int) (i : Nat) : List Bool × (Nat → Int × Int) × List Int :=
  if (fireW (T1 i) now).2 = true then (setB S i true, upd T1 i (fireW (T1 i) now).1, l ++ [(i : Int)]) else (S, T1, l)
def takeStep (now : Int) (A : List Bool) (st : List Bool × (Nat → Int × Int) × List Int) (i : Nat) : List Bool × (Nat → Int × Int) × List Int :=
  if A.getD i false = true ∨ (st.1.getD i false = false ∧ 8 ≤ cntP st.1 st.1.length) then st else takeF now st.1 (takeT now st.1 st.2.1 i) st.2.2 i
/-- Take: of the first k blocks. -/
def takeK (now : Int) (A S : List Bool) (T : Nat → Int × Int) : Nat → List Bool × (Nat → Int × Int) × List Int
  | 0 => (S, T, [])
  | k + 1 => takeStep now A (takeK now A S T k) k
theorem takeF_len (now : Int) (S : List Bool) (T1 : Nat → Int × Int) (l : List Int) (i : Nat) : (takeF now S T1 l i).1.length = S.length ∧ (takeF now S T1 l i).2.2.length ≤ l.length + 1 := by
  unfold takeF
  split
  · exact ⟨by rw [setB_length], by simp⟩
  · exact ⟨rfl, by simp⟩
theorem takeStep_len (now : Int) (A : List Bool) (st : List Bool × (Nat → Int × Int) × List Int) (i : Nat) : (takeStep now A st i).1.length = st.1.length ∧ (takeStep now A st i).2.2.length ≤ st.2.2.length + 1 := by
  unfold takeStep
  split
  · exact ⟨rfl, by omega⟩
  · exact takeF_len _ _ _ _ _
theorem takeK_len (now : Int) (A S : List Bool) (T : Nat → Int × Int) (k : Nat) : (takeK now A S T k).1.length = S.length ∧ (takeK now A S T k).2.2.length ≤ k := by
  induction k with
  | zero => exact ⟨rfl, Nat.le_refl _⟩
  | succ k ih =>
    have := takeStep_len now A (takeK now A S T k) k
    unfold takeK
    exact ⟨this.1.trans ih.1, by omega⟩
theorem step_skipA {now : Int} {A S1 : List Bool} {T1 : Nat → Int × Int} {l1 : List Int} {i : Nat} (h : A.getD i false = true) : takeStep now A (S1, T1, l1) i = (S1, T1, l1) := if_pos (Or.inl h)
theorem step_skipS {now : Int} {A S1 : List Bool} {T1 : Nat → Int × Int} {l1 : List Int} {i : Nat} (h : S1.getD i false = false) (hc : 8 ≤ cntP S1 S1.length) : takeStep now A (S1, T1, l1) i = (S1, T1, l1) := if_pos (Or.inr ⟨h, hc⟩)
theorem step_old {now : Int} {A S1 : List Bool} {T1 : Nat → Int × Int} {l1 : List Int} {i : Nat} {r : Int × Int} (ha : A.getD i false = false) (h : S1.getD i false = true) (hf : fireW (T1 i) now = (r, true)) :
    takeStep now A (S1, T1, l1) i = (setB S1 i true, upd T1 i r, l1 ++ [(i : Int)]) := by
  have hT : takeT now S1 T1 i = T1 := if_pos h
  unfold takeStep
  rw [if_neg (by rw [ha, h]; simp)]
  dsimp only
  rw [hT]
  unfold takeF
  rw [hf, if_pos rfl]
theorem step_wait {now : Int} {A S1 : List Bool} {T1 : Nat → Int × Int} {l1 : List Int} {i : Nat} {r : Int × Int} (ha : A.getD i false = false) (h : S1.getD i false = true) (hf : fireW (T1 i) now = (r, false)) :
    takeStep now A (S1, T1, l1) i = (S1, T1, l1) := by
  have hT : takeT now S1 T1 i = T1 := if_pos h
  unfold takeStep
  rw [if_neg (by rw [ha, h]; simp)]
  dsimp only
  rw [hT]
  unfold takeF
  rw [hf, if_neg (by simp)]
theorem fire_new (T1 : Nat → Int × Int) (i : Nat) (now : Int) : fireW (upd T1 i (now, 2) i) now = ((now + 2, 4), true) := by
  unfold upd fireW
  rw [if_pos rfl, if_neg (by simp)]
  rfl
theorem step_new {now : Int} {A S1 : List Bool} {T1 : Nat → Int × Int} {l1 : List Int} {i : Nat} (ha : A.getD i false = false) (h : S1.getD i false = false) (hc : ¬ 8 ≤ cntP S1 S1.length) :
    takeStep now A (S1, T1, l1) i = (setB S1 i true, upd (upd T1 i (now, 2)) i (now + 2, 4), l1 ++ [(i : Int)]) := by
  have hT : takeT now S1 T1 i = upd T1 i (now, 2) := if_neg (by rw [h]; simp)
  have hf := fire_new T1 i now
  unfold takeStep
  rw [if_neg (by rintro (h1 | h1); exact absurd (ha.symm.trans h1) (by simp); exact hc h1.2)]
  dsimp only
  rw [hT]
  unfold takeF
  rw [hf, if_pos rfl]
theorem hasB_nat (L : List Bool) (k : Nat) : hasB L (k : Int) = L.getD k false := by unfold hasB; rw [decide_eq_true (by omega)]; rfl

/-- What holds at each round of Take. -/
def TakeRel (w : World) (g : Nat) (n : Int) (A S : List Bool) (T : Nat → Int × Int) (v : Value) (now : Int) (k : Nat) (wr : World) : Prop :=
  ∃ S1 T1 l1, takeK now A S T k = (S1, T1, l1) ∧ WinAt wr g n A S1 T1 ∧ wr.ownsRow w.heap.size 3 1 v l1.length (intVals l1) ∧ w.grownBy wr (some g)

/-- What Take leaves. -/
def TakeEnd (w : World) (g N : Nat) (A S : List Bool) (T : Nat → Int × Int) (now : Int) (e : Ending) (w' : World) : Prop :=
  ∃ S1 T1 l1 A' c, takeK now A S T N = (S1, T1, l1) ∧ e = .returned (.slice A' l1.length c) ∧ l1.length ≤ c ∧ c ≤ maxLen ∧ Rd w' A' (intVals l1) ∧ (∀ ad, A' = some ad → w.heap.size ≤ ad.block) ∧ WinAt w' g (N : Nat) A S1 T1 ∧ w.grownBy w' (some g)

theorem take_none (now : Int) (w : World) : Calls Try.prog 15 #[.pointer none, .int .i64 now] w fun e w' => e = .returned (.slice none 0 0) ∧ Below w.heap.size w w' := by
  go_enter Try.func15, Try.ntmps15
  go_wp2
  go_ret
  exact ⟨rfl, Below.refl _ _⟩

set_option maxRecDepth 20000 in
set_option maxHeartbeats 4000000 in
theorem take_any (g : Nat) (N : Nat) (A S : List Bool) (T : Nat → Int × Int) (now : Int) (w : World) (hW : WinAt w g (N : Nat) A S T) (hA : A.length ≤ 256) (hS : S.length ≤ 256) (hN : N ≤ 256) (h1 : -1000000000 ≤ now) (h2 : now ≤ 1000000000) :
    Calls Try.prog 15 #[.pointer (some ⟨g, 0, none⟩), .int .i64 now] w (TakeEnd w g N A S T now) := by
  have hgw := hW.lt
  have hh := hW.head
  have hrel0 : TakeRel w g (N : Nat) A S T (.slice none 0 0) now 0 w := ⟨S, T, [], rfl, hW, World.ownsRow_nil _ _ _ _, ⟨rfl, rfl, rfl, Nat.le_refl _, fun _ _ _ => rfl⟩⟩
  go_enter Try.func15, Try.ntmps15
  go_upto_region 5 with (fail)
  clear hh hW
  go_loopw [5, 16] (fun v i wr => ∃ k : Nat, k ≤ N ∧ i = .int .i64 k ∧ TakeRel w g (N : Nat) A S T v now k wr) (fun _ i _ => N - (intOf i).toNat)
  case atStart => exact ⟨0, by omega, rfl, hrel0⟩
  case round =>
    clear hrel0
    obtain ⟨k, hk, rfl, S1, T1, l1, htk, hWr, hown, hgr⟩ := hrel
    have hS1 : S1.length ≤ 256 := by have := (takeK_len now A S T k).1; rw [htk] at this; dsimp only at this; omega
    have hl1 : l1.length ≤ 256 := by have := (takeK_len now A S T k).2; rw [htk] at this; dsimp only at this; omega
    by_cases hlt : (k : Int) < (N : Int)
    · have hk1 : (k : Int) < 256 := by omega
      obtain ⟨a0, a1, a2, a3, a4⟩ := hWr.acked
      cases ha : A.getD k false with
      | true =>
        have hst : takeK now A S T (k + 1) = (S1, T1, l1) := by show takeStep now A (takeK now A S T k) k = _; rw [htk]; exact step_skipA ha
        have Ha := Lib.hid ((hasB_nat A k).trans ha)
        clear ha htk
        go_wp2_with fail
        (with_reducible refine (has_is A (k : Int) true Ha.out _ hA).mono ?_)
        rintro e w1 ⟨rfl, hb1⟩
        have hfin : TakeRel w g (N : Nat) A S T u5 now (k + 1) w1 := ⟨S1, T1, l1, hst, hWr.below' hb1, own_below hown hb1, only_trans hgr (only_below g hb1)⟩
        clear hst hWr hown hgr a0 a1 a2 a3 a4
        go_wp2_with fail
        go_roundw
        case rel => exact ⟨k + 1, by omega, by go_num, hfin⟩
        case measure => simp [intOf]; omega
      | false =>
        have Ha := Lib.hid ((hasB_nat A k).trans ha)
        go_wp2_with fail
        (with_reducible refine (has_is A (k : Int) false Ha.out _ hA).mono ?_)
        rintro e w1 ⟨rfl, hb1⟩
        have hW1 := hWr.below' hb1
        have hown1 := own_below hown hb1
        have hgr1 := only_trans hgr (only_below g hb1)
        clear hWr hown hgr a0 a1 a2 a3 a4 hb1
        obtain ⟨s0, s1, s2, s3, s4⟩ := hW1.sent
        cases hs : S1.getD k false with
        | true =>
          have Hs := Lib.hid ((hasB_nat S1 k).trans hs)
          go_wp2_with fail
          (with_reducible refine (has_is S1 (k : Int) true Hs.out _ hS1).mono ?_)
          rintro e w2 ⟨rfl, hb2⟩
          have hW2 := hW1.below' hb2
          have hown2 := own_below hown1 hb2
          have hgr2 := only_trans hgr1 (only_below g hb2)
          clear hW1 hown1 hgr1 s0 s1 s2 s3 s4 hb2
          obtain ⟨s0, s1, s2, s3, s4⟩ := hW2.sent
          go_wp2_with fail
          (with_reducible refine (has_is S1 (k : Int) true Hs.out _ hS1).mono ?_)
          rintro e w3 ⟨rfl, hb3⟩
          have hW3 := hW2.below' hb3
          have hown3 := own_below hown2 hb3
          have hgr3 := only_trans hgr2 (only_below g hb3)
          clear hW2 hown2 hgr2 s0 s1 s2 s3 s4 hb3
          obtain ⟨t0, t1⟩ := hW3.timer k (11 + k * 2) (11 + k * 2 + 1) (by omega) (by omega) (by omega)
          obtain ⟨⟨⟨d', c'⟩, bb⟩, hfr⟩ : ∃ r, fireW ((T1 k).1, (T1 k).2) now = r := ⟨_, rfl⟩
          cases bb with
          | false =>
            have hst : takeK now A S T (k + 1) = (S1, T1, l1) := by show takeStep now A (takeK now A S T k) k = _; rw [htk]; exact step_wait ha hs hfr
            have Hf := Lib.hid hfr
            clear hfr hs ha htk
            go_wp2_with fail
            (with_reducible refine (fire_agg (T1 k).1 (T1 k).2 now d' c' false Hf.out _ (by omega) (by omega)).mono ?_)
            rintro e w4 ⟨rfl, hb4⟩
            have hb5 := (Below.refl w4.heap.size w4).alloc (Nat.le_refl _) (.cells #[.int .i64 d', .int .i64 c'] 24)
            have hb45 := bl hb4 hb5
            have hfin : TakeRel w g (N : Nat) A S T u5 now (k + 1) (w4.alloc (.cells #[.int .i64 d', .int .i64 c'] 24)) := ⟨S1, T1, l1, hst, hW3.below' hb45, own_below hown3 hb45, only_trans hgr3 (only_below g hb45)⟩
            clear hst hW3 hown3 hgr3 t0 t1 hb4 hb5 hb45
            go_wp2_with fail
            go_roundw
            case rel => exact ⟨k + 1, by omega, by go_num, hfin⟩
            case measure => simp [intOf]; omega
          | true =>
            have hst : takeK now A S T (k + 1) = (setB S1 k true, upd T1 k (d', c'), l1 ++ [(k : Int)]) := by show takeStep now A (takeK now A S T k) k = _; rw [htk]; exact step_old ha hs hfr
            have Hf := Lib.hid hfr
            have Hst := Lib.hid hst
            clear hfr hs ha htk hst
            go_wp2_with fail
            (with_reducible refine (fire_agg (T1 k).1 (T1 k).2 now d' c' true Hf.out _ (by omega) (by omega)).mono ?_)
            rintro e w4 ⟨rfl, hb4⟩
            have hb5 := (Below.refl w4.heap.size w4).alloc (Nat.le_refl _) (.cells #[.int .i64 d', .int .i64 c'] 24)
            have hb45 := bl hb4 hb5
            have hW5 := hW3.below' hb45
            have hown5 := own_below hown3 hb45
            have hgr5 := only_trans hgr3 (only_below g hb45)
            have hloc : Bk (w4.alloc (.cells #[.int .i64 d', .int .i64 c'] 24)) w4.heap.size 24 #[.int .i64 d', .int .i64 c'] := Bk.new _ _ _
            have hgh : w4.heap.size ≠ g := by have := hgr5.size; have := hb45.size; have := hb4.size; have := hgr3.size; omega
            clear hW3 hown3 hgr3 t0 t1 hb4 hb5 hb45
            go_upto_region 12 with (fail)
            generalize w4.alloc (.cells #[.int .i64 d', .int .i64 c'] 24) = w5 at *
            generalize w4.heap.size = hh at *
            have l0 : w5.drew.cell? ⟨hh, 0, none⟩ = some (.int .i64 d') := hloc.cell 0
            have l1' : w5.drew.cell? ⟨hh, 1, none⟩ = some (.int .i64 c') := hloc.cell 1
            obtain ⟨t0, t1⟩ := WinAt.timer (w := w5) hW5 k (11 + k * 2) (11 + k * 2 + 1) (by omega) (by omega) (by omega)
            have r11 := WinAt.frozen (w := w5) hW5 (11 + k * 2)
            have r12 := WinAt.frozen (w := w5) hW5 (11 + k * 2 + 1)
            have hW6 : WinAt (((w5.setCell ⟨g, 11 + k * 2, none⟩ (.int .i64 d')).setCell ⟨g, 11 + k * 2 + 1, none⟩ (.int .i64 c')).drew) g (N : Nat) A S1 (upd T1 k (d', c')) := WinAt.setT (w := w5) hW5 k (11 + k * 2) (11 + k * 2 + 1) d' c' (by omega) (by omega)
            have ho7 : w5.grownBy (((w5.setCell ⟨g, 11 + k * 2, none⟩ (.int .i64 d')).setCell ⟨g, 11 + k * 2 + 1, none⟩ (.int .i64 c')).drew) (some g) := only_trans (set2_only w5 g (11 + k * 2) (11 + k * 2 + 1) (.int .i64 d') (.int .i64 c')) (only_drew _ g)
            have hX6 := And.intro (ho7.cell (show w5.cell? ⟨hh, 0, none⟩ = some (.int .i64 d') from hloc.cell 0) (by simpa using hgh)) (ho7.cell (show w5.cell? ⟨hh, 1, none⟩ = some (.int .i64 c') from hloc.cell 1) (by simpa using hgh))
            have hown6 := own_only hown5 ho7 hgw
            have hgr6 := only_trans hgr5 ho7
            clear hW5 hown5 hgr5 ho7 hloc
            refine wp_region_held_drew (S := fun w' => w'.cell? ⟨hh, 0, none⟩ = some (.int .i64 d') ∧ w'.cell? ⟨hh, 1, none⟩ = some (.int .i64 c')) (by kernel_rfl) ⟨l0, l1'⟩ (fun _ => ?_)
            refine anyH_take (i := 0) (v := ?_) rfl (by kernel_rfl) (by kernel_rfl) (by kernel_rfl) (fun _ _ _ h => h) (by rfl) ?_ (by assumption) ?_
            rotate_left
            · intro w' hSw; (try dsimp only at hSw); go_simp; (try with_reducible rfl)
            try simp only [Act.put, List.setIfInBounds_toArray, List.set_cons_zero, List.set_cons_succ]
            refine anyH_take (i := 1) (v := ?_) rfl (by kernel_rfl) (by kernel_rfl) (by kernel_rfl) (fun _ _ _ h => h) (by rfl) ?_ (by assumption) ?_
            rotate_left
            · intro w' hSw; (try dsimp only at hSw); go_simp; (try with_reducible rfl)
            try simp only [Act.put, List.setIfInBounds_toArray, List.set_cons_zero, List.set_cons_succ]
            refine anyH_take (i := 2) (v := ?_) rfl (by kernel_rfl) (by kernel_rfl) (by kernel_rfl) (fun _ _ _ h => h) (by rfl) ?_ (by assumption) ?_
            rotate_left
            · intro w' hSw; (try dsimp only at hSw); go_simp; (try with_reducible rfl)
            try simp only [Act.put, List.setIfInBounds_toArray, List.set_cons_zero, List.set_cons_succ]
            refine anyH_take (i := 3) (v := ?_) rfl (by kernel_rfl) (by kernel_rfl) (by kernel_rfl) (fun _ _ _ h => h) (by rfl) ?_ (by assumption) ?_
            rotate_left
            · intro w' hSw; (try dsimp only at hSw); go_simp; (try with_reducible rfl)
            try simp only [Act.put, List.setIfInBounds_toArray, List.set_cons_zero, List.set_cons_succ]
            refine anyH_take (i := 4) (v := ?_) rfl (by kernel_rfl) (by kernel_rfl) (by kernel_rfl) (fun _ _ _ h => h) (by rfl) ?_ (by assumption) ?_
            rotate_left
            · intro w' hSw; (try dsimp only at hSw); go_simp; (try with_reducible rfl)
            try simp only [Act.put, List.setIfInBounds_toArray, List.set_cons_zero, List.set_cons_succ]
            refine anyH_take (i := 5) (v := ?_) rfl (by kernel_rfl) (by kernel_rfl) (by kernel_rfl) (fun _ _ _ h => h) (by rfl) ?_ (by assumption) ?_
            rotate_left
            · intro w' hSw; (try dsimp only at hSw); go_simp; (try with_reducible rfl)
            try simp only [Act.put, List.setIfInBounds_toArray, List.set_cons_zero, List.set_cons_succ]
            refine anyH_call (i := 6) rfl (by kernel_rfl) (by rfl) (fun K hK => ?_)
            go_simp
            refine hK.out _ _ hX6 (fun _ => ?_)
            clear hK K
            try simp only [Act.put, List.setIfInBounds_toArray, List.set_cons_zero, List.set_cons_succ]
            refine wpAnyH_done (by kernel_rfl) ?_ _
            generalize ((w5.setCell ⟨g, 11 + k * 2, none⟩ (.int .i64 d')).setCell ⟨g, 11 + k * 2 + 1, none⟩ (.int .i64 c')).drew = w6 at *
            clear l0 l1' t0 t1 r11 r12 hX6
            obtain ⟨s0, s1, s2, s3, s4⟩ := hW6.sent
            obtain ⟨S2, hS2⟩ : ∃ S2, setB S1 (k : Int) true = S2 := ⟨_, rfl⟩
            have HS2 := Lib.hid hS2
            clear hS2
            go_wp2_with fail
            (with_reducible refine (with_is S1 (k : Int) S2 HS2.out _ hS1).mono ?_)
            rintro e w7 ⟨rfl, hb7⟩
            have hW7 := hW6.below' hb7
            have hown7 := own_below hown6 hb7
            have hgr7 := only_trans hgr6 (only_below g hb7)
            clear s0 s1 s2 s3 s4 hW6 hown6 hgr6 hb7
            obtain ⟨s0, s1, s2, s3, s4⟩ := hW7.sent
            have r6 := hW7.frozen 6
            have r7 := hW7.frozen 7
            have r8 := hW7.frozen 8
            have r9 := hW7.frozen 9
            have r10 := hW7.frozen 10
            have hW8 := hW7.setS S2
            have ho8 := set5_only w7 g 6 7 8 9 10 (.int .i64 (S2.length : Nat)) (.int .u64 (wdN S2 0 : Nat)) (.int .u64 (wdN S2 1 : Nat)) (.int .u64 (wdN S2 2 : Nat)) (.int .u64 (wdN S2 3 : Nat))
            have hown8 := own_only hown7 ho8 hgw
            have hgr8 := only_trans hgr7 ho8
            clear ho8 hown7 hgr7
            go_upto_region 14 with (fail)
            clear s0 s1 s2 s3 s4 r6 r7 r8 r9 r10 hW7
            generalize ((((w7.setCell ⟨g, 6, none⟩ (.int .i64 (S2.length : Nat))).setCell ⟨g, 7, none⟩ (.int .u64 (wdN S2 0 : Nat))).setCell ⟨g, 8, none⟩ (.int .u64 (wdN S2 1 : Nat))).setCell ⟨g, 9, none⟩ (.int .u64 (wdN S2 2 : Nat))).setCell ⟨g, 10, none⟩ (.int .u64 (wdN S2 3 : Nat)) = w8 at *
            have hsz8 := hgr8.size
            go_wp2_with (at_builtin; go_must (refine wpList_append_new w8 rfl (.tmp 83) (.tmp 85) 22 rfl w.heap.size 3 1 8 el_int _ _ _ hown8 rfl _ rfl rfl (by intro u hu; simp at hu; subst hu; rfl) (by unfold maxLen; omega) (by omega) hsz8 ?_); intro v9 w9 hown9 hb9)
            have hfin : TakeRel w g (N : Nat) A S T v9 now (k + 1) w9 := by
              refine ⟨S2, upd T1 k (d', c'), l1 ++ [(k : Int)], by rw [Hst.out, HS2.out], hW8.of_block (hb9.block g hgw), ?_, only_then hgr8 hb9⟩
              have e9 : (l1 ++ [(k : Int)]).length = l1.length + 1 := by simp
              rw [e9, ← intVals_snoc]
              exact hown9
            clear hW8 hown8 hgr8 hsz8 hown9 hb9 Hst
            go_roundw
            case rel => exact ⟨k + 1, by omega, by go_num, hfin⟩
            case measure => simp [intOf]; omega
        | false =>
          have Hs := Lib.hid ((hasB_nat S1 k).trans hs)
          go_wp2_with fail
          (with_reducible refine (has_is S1 (k : Int) false Hs.out _ hS1).mono ?_)
          rintro e w2 ⟨rfl, hb2⟩
          have hW2 := hW1.below' hb2
          have hown2 := own_below hown1 hb2
          have hgr2 := only_trans hgr1 (only_below g hb2)
          clear hW1 hown1 hgr1 s0 s1 s2 s3 s4 hb2
          obtain ⟨s0, s1, s2, s3, s4⟩ := hW2.sent
          obtain ⟨c, hc⟩ : ∃ c : Int, (cntP S1 S1.length : Int) = c := ⟨_, rfl⟩
          have Hc := Lib.hid hc
          go_wp2_with fail
          (with_reducible refine (count_is S1 c Hc.out _ hS1).mono ?_)
          rintro e w3 ⟨rfl, hb3⟩
          have hW3 := hW2.below' hb3
          have hown3 := own_below hown2 hb3
          have hgr3 := only_trans hgr2 (only_below g hb3)
          clear hW2 hown2 hgr2 s0 s1 s2 s3 s4 hb3
          by_cases h8 : 8 ≤ c
          · have hst : takeK now A S T (k + 1) = (S1, T1, l1) := by show takeStep now A (takeK now A S T k) k = _; rw [htk]; exact step_skipS hs (by omega)
            have hfin : TakeRel w g (N : Nat) A S T u5 now (k + 1) w3 := ⟨S1, T1, l1, hst, hW3, hown3, hgr3⟩
            clear hst hs ha htk hc hW3 hown3 hgr3
            go_wp2_with fail
            go_roundw
            case rel => exact ⟨k + 1, by omega, by go_num, hfin⟩
            case measure => simp [intOf]; omega
          · obtain ⟨d', hd'⟩ : ∃ d', now + 2 = d' := ⟨_, rfl⟩
            obtain ⟨c', hc'⟩ : ∃ c' : Int, (4 : Int) = c' := ⟨_, rfl⟩
            have hst : takeK now A S T (k + 1) = (setB S1 k true, upd (upd T1 k (now, 2)) k (d', c'), l1 ++ [(k : Int)]) := by show takeStep now A (takeK now A S T k) k = _; rw [htk, ← hd', ← hc']; exact step_new ha hs (by omega)
            have hfr : fireW (now, 2) now = ((d', c'), true) := by have h := fire_new T1 k now; rw [hd', hc'] at h; rw [← h]; unfold upd; rw [if_pos rfl]
            have Hf := Lib.hid hfr
            have Hst := Lib.hid hst
            clear hfr hs ha htk hst hc hd' hc'
            obtain ⟨s0, s1, s2, s3, s4⟩ := hW3.sent
            go_wp2_with fail
            (with_reducible refine (has_is S1 (k : Int) false Hs.out _ hS1).mono ?_)
            rintro e wa ⟨rfl, hba⟩
            have hWa := hW3.below' hba
            have howna := own_below hown3 hba
            have hgra := only_trans hgr3 (only_below g hba)
            clear hW3 hown3 hgr3 s0 s1 s2 s3 s4 hba
            obtain ⟨t0, t1⟩ := hWa.timer k (11 + k * 2) (11 + k * 2 + 1) (by omega) (by omega) (by omega)
            have r11 := hWa.frozen (11 + k * 2)
            have r12 := hWa.frozen (11 + k * 2 + 1)
            have hWb := hWa.setT k (11 + k * 2) (11 + k * 2 + 1) now 2 (by omega) (by omega)
            have hob := set2_only wa g (11 + k * 2) (11 + k * 2 + 1) (.int .i64 now) (.int .i64 2)
            have hownb := own_only howna hob hgw
            have hgrb := only_trans hgra hob
            clear hWa howna hgra hob
            go_upto_region 10 with (fail)
            generalize (wa.setCell ⟨g, 11 + k * 2, none⟩ (.int .i64 now)).setCell ⟨g, 11 + k * 2 + 1, none⟩ (.int .i64 2) = wb at *
            clear t0 t1 r11 r12
            obtain ⟨t0, t1⟩ := hWb.timer k (11 + k * 2) (11 + k * 2 + 1) (by omega) (by omega) (by omega)
            rw [show upd T1 k (now, 2) k = (now, 2) from if_pos rfl] at t0 t1
            generalize upd T1 k (now, 2) = T2 at *
            go_wp2_with fail
            (with_reducible refine (fire_agg now 2 now d' c' true Hf.out _ (by omega) (by omega)).mono ?_)
            rintro e w4 ⟨rfl, hb4⟩
            have hb5 := (Below.refl w4.heap.size w4).alloc (Nat.le_refl _) (.cells #[.int .i64 d', .int .i64 c'] 24)
            have hb45 := bl hb4 hb5
            have hW5 := hWb.below' hb45
            have hown5 := own_below hownb hb45
            have hgr5 := only_trans hgrb (only_below g hb45)
            have hloc : Bk (w4.alloc (.cells #[.int .i64 d', .int .i64 c'] 24)) w4.heap.size 24 #[.int .i64 d', .int .i64 c'] := Bk.new _ _ _
            have hgh : w4.heap.size ≠ g := by have := hgr5.size; have := hb45.size; have := hb4.size; have := hgrb.size; omega
            clear hWb hownb hgrb t0 t1 hb4 hb5 hb45
            go_upto_region 12 with (fail)
            generalize w4.alloc (.cells #[.int .i64 d', .int .i64 c'] 24) = w5 at *
            generalize w4.heap.size = hh at *
            have l0 : w5.drew.cell? ⟨hh, 0, none⟩ = some (.int .i64 d') := hloc.cell 0
            have l1' : w5.drew.cell? ⟨hh, 1, none⟩ = some (.int .i64 c') := hloc.cell 1
            obtain ⟨t0, t1⟩ := WinAt.timer (w := w5) hW5 k (11 + k * 2) (11 + k * 2 + 1) (by omega) (by omega) (by omega)
            have r11 := WinAt.frozen (w := w5) hW5 (11 + k * 2)
            have r12 := WinAt.frozen (w := w5) hW5 (11 + k * 2 + 1)
            have hW6 : WinAt (((w5.setCell ⟨g, 11 + k * 2, none⟩ (.int .i64 d')).setCell ⟨g, 11 + k * 2 + 1, none⟩ (.int .i64 c')).drew) g (N : Nat) A S1 (upd T2 k (d', c')) := WinAt.setT (w := w5) hW5 k (11 + k * 2) (11 + k * 2 + 1) d' c' (by omega) (by omega)
            have ho7 : w5.grownBy (((w5.setCell ⟨g, 11 + k * 2, none⟩ (.int .i64 d')).setCell ⟨g, 11 + k * 2 + 1, none⟩ (.int .i64 c')).drew) (some g) := only_trans (set2_only w5 g (11 + k * 2) (11 + k * 2 + 1) (.int .i64 d') (.int .i64 c')) (only_drew _ g)
            have hX6 := And.intro (ho7.cell (show w5.cell? ⟨hh, 0, none⟩ = some (.int .i64 d') from hloc.cell 0) (by simpa using hgh)) (ho7.cell (show w5.cell? ⟨hh, 1, none⟩ = some (.int .i64 c') from hloc.cell 1) (by simpa using hgh))
            have hown6 := own_only hown5 ho7 hgw
            have hgr6 := only_trans hgr5 ho7
            clear hW5 hown5 hgr5 ho7 hloc
            refine wp_region_held_drew (S := fun w' => w'.cell? ⟨hh, 0, none⟩ = some (.int .i64 d') ∧ w'.cell? ⟨hh, 1, none⟩ = some (.int .i64 c')) (by kernel_rfl) ⟨l0, l1'⟩ (fun _ => ?_)
            refine anyH_take (i := 0) (v := ?_) rfl (by kernel_rfl) (by kernel_rfl) (by kernel_rfl) (fun _ _ _ h => h) (by rfl) ?_ (by assumption) ?_
            rotate_left
            · intro w' hSw; (try dsimp only at hSw); go_simp; (try with_reducible rfl)
            try simp only [Act.put, List.setIfInBounds_toArray, List.set_cons_zero, List.set_cons_succ]
            refine anyH_take (i := 1) (v := ?_) rfl (by kernel_rfl) (by kernel_rfl) (by kernel_rfl) (fun _ _ _ h => h) (by rfl) ?_ (by assumption) ?_
            rotate_left
            · intro w' hSw; (try dsimp only at hSw); go_simp; (try with_reducible rfl)
            try simp only [Act.put, List.setIfInBounds_toArray, List.set_cons_zero, List.set_cons_succ]
            refine anyH_take (i := 2) (v := ?_) rfl (by kernel_rfl) (by kernel_rfl) (by kernel_rfl) (fun _ _ _ h => h) (by rfl) ?_ (by assumption) ?_
            rotate_left
            · intro w' hSw; (try dsimp only at hSw); go_simp; (try with_reducible rfl)
            try simp only [Act.put, List.setIfInBounds_toArray, List.set_cons_zero, List.set_cons_succ]
            refine anyH_take (i := 3) (v := ?_) rfl (by kernel_rfl) (by kernel_rfl) (by kernel_rfl) (fun _ _ _ h => h) (by rfl) ?_ (by assumption) ?_
            rotate_left
            · intro w' hSw; (try dsimp only at hSw); go_simp; (try with_reducible rfl)
            try simp only [Act.put, List.setIfInBounds_toArray, List.set_cons_zero, List.set_cons_succ]
            refine anyH_take (i := 4) (v := ?_) rfl (by kernel_rfl) (by kernel_rfl) (by kernel_rfl) (fun _ _ _ h => h) (by rfl) ?_ (by assumption) ?_
            rotate_left
            · intro w' hSw; (try dsimp only at hSw); go_simp; (try with_reducible rfl)
            try simp only [Act.put, List.setIfInBounds_toArray, List.set_cons_zero, List.set_cons_succ]
            refine anyH_take (i := 5) (v := ?_) rfl (by kernel_rfl) (by kernel_rfl) (by kernel_rfl) (fun _ _ _ h => h) (by rfl) ?_ (by assumption) ?_
            rotate_left
            · intro w' hSw; (try dsimp only at hSw); go_simp; (try with_reducible rfl)
            try simp only [Act.put, List.setIfInBounds_toArray, List.set_cons_zero, List.set_cons_succ]
            refine anyH_call (i := 6) rfl (by kernel_rfl) (by rfl) (fun K hK => ?_)
            go_simp
            refine hK.out _ _ hX6 (fun _ => ?_)
            clear hK K
            try simp only [Act.put, List.setIfInBounds_toArray, List.set_cons_zero, List.set_cons_succ]
            refine wpAnyH_done (by kernel_rfl) ?_ _
            generalize ((w5.setCell ⟨g, 11 + k * 2, none⟩ (.int .i64 d')).setCell ⟨g, 11 + k * 2 + 1, none⟩ (.int .i64 c')).drew = w6 at *
            clear l0 l1' t0 t1 r11 r12 hX6
            obtain ⟨s0, s1, s2, s3, s4⟩ := hW6.sent
            obtain ⟨S2, hS2⟩ : ∃ S2, setB S1 (k : Int) true = S2 := ⟨_, rfl⟩
            have HS2 := Lib.hid hS2
            clear hS2
            go_wp2_with fail
            (with_reducible refine (with_is S1 (k : Int) S2 HS2.out _ hS1).mono ?_)
            rintro e w7 ⟨rfl, hb7⟩
            have hW7 := hW6.below' hb7
            have hown7 := own_below hown6 hb7
            have hgr7 := only_trans hgr6 (only_below g hb7)
            clear s0 s1 s2 s3 s4 hW6 hown6 hgr6 hb7
            obtain ⟨s0, s1, s2, s3, s4⟩ := hW7.sent
            have r6 := hW7.frozen 6
            have r7 := hW7.frozen 7
            have r8 := hW7.frozen 8
            have r9 := hW7.frozen 9
            have r10 := hW7.frozen 10
            have hW8 := hW7.setS S2
            have ho8 := set5_only w7 g 6 7 8 9 10 (.int .i64 (S2.length : Nat)) (.int .u64 (wdN S2 0 : Nat)) (.int .u64 (wdN S2 1 : Nat)) (.int .u64 (wdN S2 2 : Nat)) (.int .u64 (wdN S2 3 : Nat))
            have hown8 := own_only hown7 ho8 hgw
            have hgr8 := only_trans hgr7 ho8
            clear ho8 hown7 hgr7
            go_upto_region 14 with (fail)
            clear s0 s1 s2 s3 s4 r6 r7 r8 r9 r10 hW7
            generalize ((((w7.setCell ⟨g, 6, none⟩ (.int .i64 (S2.length : Nat))).setCell ⟨g, 7, none⟩ (.int .u64 (wdN S2 0 : Nat))).setCell ⟨g, 8, none⟩ (.int .u64 (wdN S2 1 : Nat))).setCell ⟨g, 9, none⟩ (.int .u64 (wdN S2 2 : Nat))).setCell ⟨g, 10, none⟩ (.int .u64 (wdN S2 3 : Nat)) = w8 at *
            have hsz8 := hgr8.size
            go_wp2_with (at_builtin; go_must (refine wpList_append_new w8 rfl (.tmp 83) (.tmp 85) 22 rfl w.heap.size 3 1 8 el_int _ _ _ hown8 rfl _ rfl rfl (by intro u hu; simp at hu; subst hu; rfl) (by unfold maxLen; omega) (by omega) hsz8 ?_); intro v9 w9 hown9 hb9)
            have hfin : TakeRel w g (N : Nat) A S T v9 now (k + 1) w9 := by
              refine ⟨S2, upd T2 k (d', c'), l1 ++ [(k : Int)], by rw [Hst.out, HS2.out], hW8.of_block (hb9.block g hgw), ?_, only_then hgr8 hb9⟩
              have e9 : (l1 ++ [(k : Int)]).length = l1.length + 1 := by simp
              rw [e9, ← intVals_snoc]
              exact hown9
            clear hW8 hown8 hgr8 hsz8 hown9 hb9 Hst
            go_roundw
            case rel => exact ⟨k + 1, by omega, by go_num, hfin⟩
            case measure => simp [intOf]; omega
    · have hkN : k = N := by omega
      subst hkN
      obtain ⟨_, A', c, hv, hnc, hcm, hrd⟩ := Sl.own hown
      have hlt' := hown.lt
      subst hv
      have Htk := Lib.hid htk
      clear htk
      go_wp2_with fail
      go_ret
      exact ⟨S1, T1, l1, A', c, Htk.out, rfl, hnc, hcm, hrd, fun ad hA => by subst hA; exact (hlt' _ rfl).1, hWr, hgr⟩
end Go.Proofs.Ytapanifgnpklpaa
