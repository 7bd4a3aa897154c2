/-
  The reference's window: the walk of Take.
-/
import Derived.Test.YtapanifgnpklpaaWinM
import Derived.Test.YtapanifgnpklpaaWinF
namespace Go.Proofs.Ytapanifgnpklpaa
open Go.RowKit

theorem listR_cnt (L : List Bool) (k : Nat) (hk : k ≤ L.length) : (listR L k).length + cntP L k = cntP L L.length := by
  obtain ⟨d, hd⟩ : ∃ d, L.length = k + d := ⟨L.length - k, by omega⟩
  induction d generalizing k with
  | zero => rw [listR_end L k (by omega), show k = L.length from by omega]; simp
  | succ d ih =>
    have h := ih (k + 1) (by omega) (by omega)
    have hc : cntP L (k + 1) = cntP L k + (if L.getD k false then 1 else 0) := rfl
    by_cases hv : L.getD k false = true
    · rw [listR_hit L k (by omega) hv, List.length_cons]
      rw [hv] at hc
      simp at hc
      omega
    · have hv' : L.getD k false = false := by simpa using hv
      rw [listR_miss L k (by omega) hv]
      rw [hv'] at hc
      simp at hc
      omega
/-- What the reference's Take leaves. -/
def RefTake (w : World) (r rs rt N : Nat) (vS vT : Value) (A S : List Bool) (T : Nat → Int × Int) (now : Int) (e : Ending) (w' : World) : Prop :=
  ∃ S1 T1 l1 A' c, takeK now A S T N = (S1, T1, l1) ∧ e = .returned (.slice A' l1.length c) ∧ l1.length ≤ c ∧ c ≤ maxLen ∧ Rd w' A' (intVals l1) ∧ (∀ ad, A' = some ad → w.heap.size ≤ ad.block) ∧ RefAt w' r rs rt N vS vT A S1 T1 ∧ TwoF rs rt w w'
/-- What holds at each round. -/
def RtkRel (w : World) (r rs rt N : Nat) (vS vT : Value) (A S : List Bool) (T : Nat → Int × Int) (now : Int) (v : Value) (k : Nat) (wr : World) : Prop :=
  ∃ S1 T1 l1, takeK now A S T k = (S1, T1, l1) ∧ RefAt wr r rs rt N vS vT A S1 T1 ∧ wr.ownsRow w.heap.size 3 1 v l1.length (intVals l1) ∧ TwoF rs rt w wr
theorem stF_put (A S : List Bool) (k i : Nat) (hk : k < S.length) (ha : A.getD k false = false) : (if i = k then Value.int .i64 1 else stF A S i) = stF A (setB S (k : Int) true) i := by
  unfold stF stV
  rw [put_getD S k i hk]
  by_cases e : i = k
  · subst e; rw [if_pos rfl, ha]; simp
  · have e2 : ¬ k = i := fun h => e h.symm
    simp only [if_neg e, if_neg e2]
theorem RefAt.stamp {w w' : World} {r rs rt N : Nat} {vS vT : Value} {A S : List Bool} {T : Nat → Int × Int} (h : RefAt w r rs rt N vS vT A S T) (k : Nat) (x : Int × Int) (hx : x.2 ≤ 16) (_hk : k < N) (i j : Nat) (hi : i = k * 2) (hj : j = k * 2 + 1)
    (hw : w' = ((w.setCell ⟨rt, i, none⟩ (.int .i64 x.1)).setCell ⟨rt, j, none⟩ (.int .i64 x.2)).drew ∨ w' = (w.setCell ⟨rt, i, none⟩ (.int .i64 x.1)).setCell ⟨rt, j, none⟩ (.int .i64 x.2)) : RefAt w' r rs rt N vS vT A S (upd T k x) := by
  subst hi hj
  obtain ⟨h1, h2, h3, h4, h5, h6, h7, Tt, h8, h9⟩ := h
  have ho := set2_only w rt (k * 2) (k * 2 + 1) (.int .i64 x.1) (.int .i64 x.2)
  have key : RefAt ((w.setCell ⟨rt, k * 2, none⟩ (.int .i64 x.1)).setCell ⟨rt, k * 2 + 1, none⟩ (.int .i64 x.2)) r rs rt N vS vT A S (upd T k x) := by
    refine ⟨h1.only ho h3, h2, h3, h4, h5, h6, fun hp => (h7 hp).of_block (ho.block rs (h7 hp).lt (by simpa using h4)), upd Tt k x, fun hp => ?_, fun i hi hs => ?_⟩
    · exact (((h8 hp).set (k * 2) (.int .i64 x.1)).set (k * 2 + 1) (.int .i64 x.2)).congr (fun j _ => timF_set Tt k x j)
    · unfold upd
      by_cases e : i = k
      · rw [if_pos e, if_pos e]; exact ⟨rfl, hx⟩
      · rw [if_neg e, if_neg e]; exact h9 i hi hs
  rcases hw with rfl | rfl
  · exact key
  · exact key
theorem RefAt.mark {w : World} {r rs rt N : Nat} {vS vT : Value} {A S : List Bool} {T : Nat → Int × Int} (h : RefAt w r rs rt N vS vT A S T) (k : Nat) (hk : k < N) (hS : S.length = N) (ha : A.getD k false = false) (x : Int × Int) (hx : x.2 ≤ 16) :
    RefAt (((w.setCell ⟨rs, k, none⟩ (.int .i64 1)).setCell ⟨rt, k * 2, none⟩ (.int .i64 x.1)).setCell ⟨rt, k * 2 + 1, none⟩ (.int .i64 x.2)) r rs rt N vS vT A (setB S (k : Int) true) (upd T k x) := by
  obtain ⟨h1, h2, h3, h4, h5, h6, h7, Tt, h8, h9⟩ := h
  have ho1 := only_set w rs k (.int .i64 1)
  have ho := set2_only (w.setCell ⟨rs, k, none⟩ (.int .i64 1)) rt (k * 2) (k * 2 + 1) (.int .i64 x.1) (.int .i64 x.2)
  refine ⟨(h1.only ho1 h2).only ho h3, h2, h3, h4, h5, h6, fun hp => ?_, upd Tt k x, fun hp => ?_, fun i hi hs => ?_⟩
  · have hm := ((h7 hp).set k (.int .i64 1)).congr (g := stF A (setB S (k : Int) true)) (fun i _ => stF_put A S k i (by omega) ha)
    exact hm.of_block (ho.block rs hm.lt (by simpa using h4))
  · have h8' := (h8 hp).of_block (ho1.block rt (h8 hp).lt (by simpa using Ne.symm h4))
    exact ((h8'.set (k * 2) (.int .i64 x.1)).set (k * 2 + 1) (.int .i64 x.2)).congr (fun j _ => timF_set Tt k x j)
  · unfold upd
    by_cases e : i = k
    · rw [if_pos e, if_pos e]; exact ⟨rfl, hx⟩
    · rw [if_neg e, if_neg e]
      rw [put_getD S k i (by omega), if_neg (fun h => e h.symm)] at hs
      exact h9 i hi hs

theorem RefAt.base {w w' : World} {r rs rt N B : Nat} {vS vT : Value} {A S : List Bool} {T : Nat → Int × Int} (h : RefAt w r rs rt N vS vT A S T) (hb : Below B w w') (hr : r < B) (hs : rs < B) (ht : rt < B) : RefAt w' r rs rt N vS vT A S T := by
  obtain ⟨h1, h2, h3, h4, h5, h6, h7, Tt, h8, h9⟩ := h
  exact ⟨h1.below hb hr, h2, h3, h4, h5, h6, fun hN => (h7 hN).of_block (hb.block rs hs), Tt, fun hN => (h8 hN).of_block (hb.block rt ht), h9⟩

set_option maxRecDepth 20000 in
set_option maxHeartbeats 4000000 in
theorem ref_take (r rs rt N : Nat) (vS vT : Value) (A S : List Bool) (T : Nat → Int × Int) (now : Int) (w : World) (h : RefAt w r rs rt N vS vT A S T) (hI : WInv N A S) (hN : N ≤ 256) (h1 : -1000000000 ≤ now) (h2 : now ≤ 1000000000) :
    Calls Try.prog 21 #[.pointer (some ⟨r, 0, none⟩), .int .i64 now] w (RefTake w r rs rt N vS vT A S T now) := by
  have h0 := h
  obtain ⟨hB, d2, d3, d4, ⟨AS, cs, rfl, hNc, hcm, hAS⟩, ⟨AT, ct, rfl, hNt, hctm, hAT⟩, h7, Tt0, h8, h9⟩ := h
  have hrs : 0 < N → rs < w.heap.size := fun hp => (h7 hp).lt
  have hrt : 0 < N → rt < w.heap.size := fun hp => (h8 hp).lt
  have hrw := hB.lt
  have hrel0 : RtkRel w r rs rt N (.slice AS N cs) (.slice AT N ct) A S T now (.slice none 0 0) 0 w := ⟨S, T, [], rfl, h0, World.ownsRow_nil _ _ _ _, TwoF.refl _ _ _⟩
  clear hB h7 h8 h9 h0
  go_enter Try.func21, Try.ntmps21
  go_upto_region 3 with (fail)
  go_loopw [5, 6] (fun v i wr => ∃ k : Nat, k ≤ N ∧ i = .int .i64 k ∧ RtkRel w r rs rt N (.slice AS N cs) (.slice AT N ct) A S T now v k wr) (fun _ i _ => N - (intOf i).toNat)
  case atStart => exact ⟨0, by omega, rfl, hrel0⟩
  case round =>
    clear hrel0
    obtain ⟨k, hk, rfl, S1, T1, l1, htk, hRf, hown, htf⟩ := hrel
    have hIk := (winv_take now N A S T hI k hk).1
    rw [htk] at hIk
    have hl1 : l1.length ≤ 256 := by have := (takeK_len now A S T k).2; rw [htk] at this; dsimp only at this; omega
    have hBr : Bk wr r 54 #[.slice AS N cs, .slice AT N ct] := hRf.1
    have p0 : wr.cell? ⟨r, 0, none⟩ = some (.slice AS N cs) := hBr.cell 0
    by_cases hlt : (k : Int) < (N : Int)
    · obtain rfl := hAS (by omega)
      obtain rfl := hAT (by omega)
      have hrs' := hrs (by omega)
      have hrt' := hrt (by omega)
      have p1 : wr.cell? ⟨r, 1, none⟩ = some (.slice (some ⟨rt, 0, none⟩) N ct) := hBr.cell 1
      obtain ⟨_, _, _, _, _, _, k7, Tt, k8, k9⟩ := id hRf
      have hSt := k7 (by omega)
      have hTm := k8 (by omega)
      have hcS := hSt.cell (i := k) (by omega)
      unfold stF at hcS
      cases ha : A.getD k false with
      | true =>
        have hz : stV A S1 k = 2 := by unfold stV; rw [ha]; rfl
        rw [hz] at hcS
        have hst : takeK now A S T (k + 1) = (S1, T1, l1) := by show takeStep now A (takeK now A S T k) k = _; rw [htk]; exact step_skipA ha
        have hfin : RtkRel w r rs rt N (.slice (some ⟨rs, 0, none⟩) N cs) (.slice (some ⟨rt, 0, none⟩) N ct) A S T now u5 (k + 1) wr := ⟨S1, T1, l1, hst, hRf, hown, htf⟩
        clear hst htk hIk hRf hown htf k7 k8 k9 hSt hTm hz ha hBr
        go_wp2_with fail
        go_roundw
        case rel => exact ⟨k + 1, by omega, by go_num, hfin⟩
        case measure => simp [intOf]; omega
      | false =>
        cases hs : S1.getD k false with
        | true =>
          have hz : stV A S1 k = 1 := by unfold stV; rw [ha, hs]; rfl
          rw [hz] at hcS
          obtain ⟨hTk, hc16⟩ := k9 k (by omega) hs
          have t0 := hTm.cell (i := k * 2) (by omega)
          have t1 := hTm.cell (i := k * 2 + 1) (by omega)
          rw [(timF_at Tt k).1, hTk] at t0
          rw [(timF_at Tt k).2, hTk] at t1
          obtain ⟨⟨⟨d', c'⟩, bb⟩, hfr⟩ : ∃ r, fireW ((T1 k).1, (T1 k).2) now = r := ⟨_, rfl⟩
          have hc16' : c' ≤ 16 := by
            by_cases hf : now < (T1 k).1
            · rw [fire_no hf] at hfr
              have := congrArg (fun x : (Int × Int) × Bool => x.1.2) hfr
              dsimp only at this
              omega
            · obtain ⟨u, v, hu2, hu16, hv16, hfy⟩ := fire_yes (c := (T1 k).2) hf
              rw [hfy] at hfr
              have := congrArg (fun x : (Int × Int) × Bool => x.1.2) hfr
              dsimp only at this
              omega
          have Hf := Lib.hid hfr
          cases bb with
          | false =>
            have hst : takeK now A S T (k + 1) = (S1, upd T1 k (d', c'), l1) := by
              have hd : (T1 k).1 = d' ∧ (T1 k).2 = c' := by
                by_cases hf : now < (T1 k).1
                · rw [fire_no hf] at hfr
                  simpa using hfr
                · obtain ⟨u, v, _, _, _, hfy⟩ := fire_yes (c := (T1 k).2) hf
                  rw [hfy] at hfr
                  simp at hfr
              have hu : upd T1 k (d', c') = T1 := by
                funext i
                unfold upd
                by_cases e : i = k
                · rw [if_pos e, e, ← hd.1, ← hd.2]
                · rw [if_neg e]
              rw [hu]
              show takeStep now A (takeK now A S T k) k = _
              rw [htk]
              exact step_wait ha hs hfr
            have Hst := Lib.hid hst
            clear hst hfr htk hs ha hIk k7 k8 k9 hz
            go_wp2_with fail
            (with_reducible refine (fireR_agg (T1 k).1 (T1 k).2 now d' c' false Hf.out _ (by omega) (by omega) hc16).mono ?_)
            rintro e w4 ⟨rfl, hb4⟩
            have ha4 := (Below.refl w4.heap.size w4).alloc (Nat.le_refl _) (.cells #[.int .i64 d', .int .i64 c'] 26)
            have hb5 := bl hb4 ha4
            have hR5 := hRf.below' hb5
            have hown5 := own_below hown hb5
            have htf5 := htf.trans (TwoF.of_below rs rt hb5)
            have hL5 : Bk (w4.alloc (.cells #[.int .i64 d', .int .i64 c'] 26)) w4.heap.size 26 #[.int .i64 d', .int .i64 c'] := Bk.new _ _ _
            have hT5 := hTm.of_block (hb5.block rt hTm.lt)
            have hlr : w4.heap.size ≠ rt := by have := hb4.size; have := htf.2.2.2.1; omega
            clear hRf hown htf t0 t1 hb4 ha4 hb5 hBr hSt hTm p0 p1 hcS
            go_upto_region 7 with (fail)
            generalize w4.alloc (.cells #[.int .i64 d', .int .i64 c'] 26) = w5 at *
            generalize w4.heap.size = hh at *
            have hB5 : Bk w5 r 54 #[.slice (some ⟨rs, 0, none⟩) N cs, .slice (some ⟨rt, 0, none⟩) N ct] := hR5.1
            have l0 : w5.drew.cell? ⟨hh, 0, none⟩ = some (.int .i64 d') := hL5.cell 0
            have l1' : w5.drew.cell? ⟨hh, 1, none⟩ = some (.int .i64 c') := hL5.cell 1
            have l2 : w5.drew.cell? ⟨r, 1, none⟩ = some (.slice (some ⟨rt, 0, none⟩) N ct) := hB5.cell 1
            have t0 := hT5.cell (i := k * 2) (by omega)
            have t1 := hT5.cell (i := k * 2 + 1) (by omega)
            have r11 := hT5.frozen (k * 2)
            have r12 := hT5.frozen (k * 2 + 1)
            have hR6 : RefAt (((w5.setCell ⟨rt, k * 2, none⟩ (.int .i64 d')).setCell ⟨rt, k * 2 + 1, none⟩ (.int .i64 c')).drew) r rs rt N (.slice (some ⟨rs, 0, none⟩) N cs) (.slice (some ⟨rt, 0, none⟩) N ct) A S1 (upd T1 k (d', c')) := hR5.stamp k (d', c') hc16' (by omega) (k * 2) (k * 2 + 1) rfl rfl (Or.inl rfl)
            have ho6 : w5.grownBy (((w5.setCell ⟨rt, k * 2, none⟩ (.int .i64 d')).setCell ⟨rt, k * 2 + 1, none⟩ (.int .i64 c')).drew) (some rt) := only_trans (set2_only w5 rt (k * 2) (k * 2 + 1) (.int .i64 d') (.int .i64 c')) (only_drew _ rt)
            have hX6 := And.intro (ho6.cell (show w5.cell? ⟨hh, 0, none⟩ = some (.int .i64 d') from hL5.cell 0) (by simpa using hlr)) (And.intro (ho6.cell (show w5.cell? ⟨hh, 1, none⟩ = some (.int .i64 c') from hL5.cell 1) (by simpa using hlr)) (ho6.cell (show w5.cell? ⟨r, 1, none⟩ = some (.slice (some ⟨rt, 0, none⟩) N ct) from hB5.cell 1) (by simpa using d3)))
            have hown6 := own_only hown5 ho6 hrt'
            have htf6 := htf5.trans (TwoF.right rs ho6)
            clear hR5 hown5 htf5 ho6 hL5 hB5 hT5
            refine wp_region_held_drew (S := fun w' => w'.cell? ⟨hh, 0, none⟩ = some (.int .i64 d') ∧ w'.cell? ⟨hh, 1, none⟩ = some (.int .i64 c') ∧ w'.cell? ⟨r, 1, none⟩ = some (.slice (some ⟨rt, 0, none⟩) N ct)) (by kernel_rfl) ⟨l0, l1', l2⟩ (fun _ => ?_)
            refine anyH_take (i := 0) (v := ?_) rfl (by kernel_rfl) (by kernel_rfl) (by kernel_rfl) (fun _ _ _ h => h) (by rfl) ?_ (by assumption) ?_
            rotate_left
            · intro w' hSw; (try dsimp only at hSw); go_simp; (try with_reducible rfl)
            try simp only [Act.put, List.setIfInBounds_toArray, List.set_cons_zero, List.set_cons_succ]
            refine anyH_take (i := 1) (v := ?_) rfl (by kernel_rfl) (by kernel_rfl) (by kernel_rfl) (fun _ _ _ h => h) (by rfl) ?_ (by assumption) ?_
            rotate_left
            · intro w' hSw; (try dsimp only at hSw); go_simp; (try with_reducible rfl)
            try simp only [Act.put, List.setIfInBounds_toArray, List.set_cons_zero, List.set_cons_succ]
            refine anyH_take (i := 2) (v := ?_) rfl (by kernel_rfl) (by kernel_rfl) (by kernel_rfl) (fun _ _ _ h => h) (by rfl) ?_ (by assumption) ?_
            rotate_left
            · intro w' hSw; (try dsimp only at hSw); go_simp; (try with_reducible rfl)
            try simp only [Act.put, List.setIfInBounds_toArray, List.set_cons_zero, List.set_cons_succ]
            refine anyH_take (i := 3) (v := ?_) rfl (by kernel_rfl) (by kernel_rfl) (by kernel_rfl) (fun _ _ _ h => h) (by rfl) ?_ (by assumption) ?_
            rotate_left
            · intro w' hSw; (try dsimp only at hSw); go_simp; (try with_reducible rfl)
            try simp only [Act.put, List.setIfInBounds_toArray, List.set_cons_zero, List.set_cons_succ]
            refine anyH_take (i := 4) (v := ?_) rfl (by kernel_rfl) (by kernel_rfl) (by kernel_rfl) (fun _ _ _ h => h) (by rfl) ?_ (by assumption) ?_
            rotate_left
            · intro w' hSw; (try dsimp only at hSw); go_simp; (try with_reducible rfl)
            try simp only [Act.put, List.setIfInBounds_toArray, List.set_cons_zero, List.set_cons_succ]
            refine anyH_take (i := 5) (v := ?_) rfl (by kernel_rfl) (by kernel_rfl) (by kernel_rfl) (fun _ _ _ h => h) (by rfl) ?_ (by assumption) ?_
            rotate_left
            · intro w' hSw; (try dsimp only at hSw); go_simp; (try with_reducible rfl)
            try simp only [Act.put, List.setIfInBounds_toArray, List.set_cons_zero, List.set_cons_succ]
            refine anyH_take (i := 6) (v := ?_) rfl (by kernel_rfl) (by kernel_rfl) (by kernel_rfl) (fun _ _ _ h => h) (by rfl) ?_ (by assumption) ?_
            rotate_left
            · intro w' hSw; (try dsimp only at hSw); go_simp; (try with_reducible rfl)
            try simp only [Act.put, List.setIfInBounds_toArray, List.set_cons_zero, List.set_cons_succ]
            refine anyH_call (i := 7) rfl (by kernel_rfl) (by rfl) (fun K hK => ?_)
            go_simp
            refine hK.out _ _ hX6 (fun _ => ?_)
            clear hK K
            try simp only [Act.put, List.setIfInBounds_toArray, List.set_cons_zero, List.set_cons_succ]
            refine wpAnyH_done (by kernel_rfl) ?_ _
            generalize ((w5.setCell ⟨rt, k * 2, none⟩ (.int .i64 d')).setCell ⟨rt, k * 2 + 1, none⟩ (.int .i64 c')).drew = w6 at *
            clear l0 l1' l2 t0 t1 r11 r12 hX6
            have hfin : RtkRel w r rs rt N (.slice (some ⟨rs, 0, none⟩) N cs) (.slice (some ⟨rt, 0, none⟩) N ct) A S T now u5 (k + 1) w6 := ⟨S1, _, l1, Hst.out, hR6, hown6, htf6⟩
            clear hR6 hown6 htf6
            go_wp2_with fail
            go_roundw
            case rel => exact ⟨k + 1, by omega, by go_num, hfin⟩
            case measure => simp [intOf]; omega
          | true =>
            have hst : takeK now A S T (k + 1) = (setB S1 (k : Int) true, upd T1 k (d', c'), l1 ++ [(k : Int)]) := by show takeStep now A (takeK now A S T k) k = _; rw [htk]; exact step_old ha hs hfr
            rw [put_same S1 k hs] at hst
            have Hst := Lib.hid hst
            clear hst hfr htk hs ha hIk k7 k8 k9 hz
            go_wp2_with fail
            (with_reducible refine (fireR_agg (T1 k).1 (T1 k).2 now d' c' true Hf.out _ (by omega) (by omega) hc16).mono ?_)
            rintro e w4 ⟨rfl, hb4⟩
            have ha4 := (Below.refl w4.heap.size w4).alloc (Nat.le_refl _) (.cells #[.int .i64 d', .int .i64 c'] 26)
            have hb5 := bl hb4 ha4
            have hR5 := hRf.below' hb5
            have hown5 := own_below hown hb5
            have htf5 := htf.trans (TwoF.of_below rs rt hb5)
            have hL5 : Bk (w4.alloc (.cells #[.int .i64 d', .int .i64 c'] 26)) w4.heap.size 26 #[.int .i64 d', .int .i64 c'] := Bk.new _ _ _
            have hT5 := hTm.of_block (hb5.block rt hTm.lt)
            have hlr : w4.heap.size ≠ rt := by have := hb4.size; have := htf.2.2.2.1; omega
            clear hRf hown htf t0 t1 hb4 ha4 hb5 hBr hSt hTm p0 p1 hcS
            go_upto_region 7 with (fail)
            generalize w4.alloc (.cells #[.int .i64 d', .int .i64 c'] 26) = w5 at *
            generalize w4.heap.size = hh at *
            have hB5 : Bk w5 r 54 #[.slice (some ⟨rs, 0, none⟩) N cs, .slice (some ⟨rt, 0, none⟩) N ct] := hR5.1
            have l0 : w5.drew.cell? ⟨hh, 0, none⟩ = some (.int .i64 d') := hL5.cell 0
            have l1' : w5.drew.cell? ⟨hh, 1, none⟩ = some (.int .i64 c') := hL5.cell 1
            have l2 : w5.drew.cell? ⟨r, 1, none⟩ = some (.slice (some ⟨rt, 0, none⟩) N ct) := hB5.cell 1
            have t0 := hT5.cell (i := k * 2) (by omega)
            have t1 := hT5.cell (i := k * 2 + 1) (by omega)
            have r11 := hT5.frozen (k * 2)
            have r12 := hT5.frozen (k * 2 + 1)
            have hR6 : RefAt (((w5.setCell ⟨rt, k * 2, none⟩ (.int .i64 d')).setCell ⟨rt, k * 2 + 1, none⟩ (.int .i64 c')).drew) r rs rt N (.slice (some ⟨rs, 0, none⟩) N cs) (.slice (some ⟨rt, 0, none⟩) N ct) A S1 (upd T1 k (d', c')) := hR5.stamp k (d', c') hc16' (by omega) (k * 2) (k * 2 + 1) rfl rfl (Or.inl rfl)
            have ho6 : w5.grownBy (((w5.setCell ⟨rt, k * 2, none⟩ (.int .i64 d')).setCell ⟨rt, k * 2 + 1, none⟩ (.int .i64 c')).drew) (some rt) := only_trans (set2_only w5 rt (k * 2) (k * 2 + 1) (.int .i64 d') (.int .i64 c')) (only_drew _ rt)
            have hX6 := And.intro (ho6.cell (show w5.cell? ⟨hh, 0, none⟩ = some (.int .i64 d') from hL5.cell 0) (by simpa using hlr)) (And.intro (ho6.cell (show w5.cell? ⟨hh, 1, none⟩ = some (.int .i64 c') from hL5.cell 1) (by simpa using hlr)) (ho6.cell (show w5.cell? ⟨r, 1, none⟩ = some (.slice (some ⟨rt, 0, none⟩) N ct) from hB5.cell 1) (by simpa using d3)))
            have hown6 := own_only hown5 ho6 hrt'
            have htf6 := htf5.trans (TwoF.right rs ho6)
            clear hR5 hown5 htf5 ho6 hL5 hB5 hT5
            refine wp_region_held_drew (S := fun w' => w'.cell? ⟨hh, 0, none⟩ = some (.int .i64 d') ∧ w'.cell? ⟨hh, 1, none⟩ = some (.int .i64 c') ∧ w'.cell? ⟨r, 1, none⟩ = some (.slice (some ⟨rt, 0, none⟩) N ct)) (by kernel_rfl) ⟨l0, l1', l2⟩ (fun _ => ?_)
            refine anyH_take (i := 0) (v := ?_) rfl (by kernel_rfl) (by kernel_rfl) (by kernel_rfl) (fun _ _ _ h => h) (by rfl) ?_ (by assumption) ?_
            rotate_left
            · intro w' hSw; (try dsimp only at hSw); go_simp; (try with_reducible rfl)
            try simp only [Act.put, List.setIfInBounds_toArray, List.set_cons_zero, List.set_cons_succ]
            refine anyH_take (i := 1) (v := ?_) rfl (by kernel_rfl) (by kernel_rfl) (by kernel_rfl) (fun _ _ _ h => h) (by rfl) ?_ (by assumption) ?_
            rotate_left
            · intro w' hSw; (try dsimp only at hSw); go_simp; (try with_reducible rfl)
            try simp only [Act.put, List.setIfInBounds_toArray, List.set_cons_zero, List.set_cons_succ]
            refine anyH_take (i := 2) (v := ?_) rfl (by kernel_rfl) (by kernel_rfl) (by kernel_rfl) (fun _ _ _ h => h) (by rfl) ?_ (by assumption) ?_
            rotate_left
            · intro w' hSw; (try dsimp only at hSw); go_simp; (try with_reducible rfl)
            try simp only [Act.put, List.setIfInBounds_toArray, List.set_cons_zero, List.set_cons_succ]
            refine anyH_take (i := 3) (v := ?_) rfl (by kernel_rfl) (by kernel_rfl) (by kernel_rfl) (fun _ _ _ h => h) (by rfl) ?_ (by assumption) ?_
            rotate_left
            · intro w' hSw; (try dsimp only at hSw); go_simp; (try with_reducible rfl)
            try simp only [Act.put, List.setIfInBounds_toArray, List.set_cons_zero, List.set_cons_succ]
            refine anyH_take (i := 4) (v := ?_) rfl (by kernel_rfl) (by kernel_rfl) (by kernel_rfl) (fun _ _ _ h => h) (by rfl) ?_ (by assumption) ?_
            rotate_left
            · intro w' hSw; (try dsimp only at hSw); go_simp; (try with_reducible rfl)
            try simp only [Act.put, List.setIfInBounds_toArray, List.set_cons_zero, List.set_cons_succ]
            refine anyH_take (i := 5) (v := ?_) rfl (by kernel_rfl) (by kernel_rfl) (by kernel_rfl) (fun _ _ _ h => h) (by rfl) ?_ (by assumption) ?_
            rotate_left
            · intro w' hSw; (try dsimp only at hSw); go_simp; (try with_reducible rfl)
            try simp only [Act.put, List.setIfInBounds_toArray, List.set_cons_zero, List.set_cons_succ]
            refine anyH_take (i := 6) (v := ?_) rfl (by kernel_rfl) (by kernel_rfl) (by kernel_rfl) (fun _ _ _ h => h) (by rfl) ?_ (by assumption) ?_
            rotate_left
            · intro w' hSw; (try dsimp only at hSw); go_simp; (try with_reducible rfl)
            try simp only [Act.put, List.setIfInBounds_toArray, List.set_cons_zero, List.set_cons_succ]
            refine anyH_call (i := 7) rfl (by kernel_rfl) (by rfl) (fun K hK => ?_)
            go_simp
            refine hK.out _ _ hX6 (fun _ => ?_)
            clear hK K
            try simp only [Act.put, List.setIfInBounds_toArray, List.set_cons_zero, List.set_cons_succ]
            refine wpAnyH_done (by kernel_rfl) ?_ _
            generalize ((w5.setCell ⟨rt, k * 2, none⟩ (.int .i64 d')).setCell ⟨rt, k * 2 + 1, none⟩ (.int .i64 c')).drew = w6 at *
            clear l0 l1' l2 t0 t1 r11 r12 hX6
            have hsz6 : w.heap.size ≤ w6.heap.size := htf6.2.2.2.1
            go_wp2_with (at_builtin; go_must (refine wpList_append_new w6 rfl (.tmp 46) (.tmp 48) 22 rfl w.heap.size 3 1 8 el_int _ _ _ hown6 rfl _ rfl rfl (by intro u hu; simp at hu; subst hu; rfl) (by unfold maxLen; omega) (by omega) hsz6 ?_); intro v7 w7 hown7 hb7)
            have hfin : RtkRel w r rs rt N (.slice (some ⟨rs, 0, none⟩) N cs) (.slice (some ⟨rt, 0, none⟩) N ct) A S T now v7 (k + 1) w7 := by
              refine ⟨S1, _, l1 ++ [(k : Int)], Hst.out, hR6.base hb7 hrw hrs' hrt', ?_, htf6.of_base rs rt hb7 (Nat.le_refl _)⟩
              have e9 : (l1 ++ [(k : Int)]).length = l1.length + 1 := by simp
              rw [e9, ← intVals_snoc]
              exact hown7
            clear hR6 hown6 htf6 hown7 hb7 hsz6 Hst
            go_roundw
            case rel => exact ⟨k + 1, by omega, by go_num, hfin⟩
            case measure => simp [intOf]; omega
        | false =>
          have hz : stV A S1 k = 0 := by unfold stV; rw [ha, hs]; rfl
          rw [hz] at hcS
          have hcnt := listR_cnt S1 0 (by omega)
          have hcl : (listR S1 0).length = cntP S1 S1.length := by simp [cntP] at hcnt; exact hcnt
          have hvv : ∀ i, i < N → (stV A S1 i = 1 ↔ S1.getD i false = true) := fun i _ => (stV_of A S1 i (hIk.2.2.2 i)).1
          obtain ⟨q, hq⟩ : ∃ q, (listR S1 0).length = q := ⟨_, rfl⟩
          by_cases h8 : q < 8
          · have hst : takeK now A S T (k + 1) = (setB S1 (k : Int) true, upd (upd T1 k (now, 2)) k (now + 2, 4), l1 ++ [(k : Int)]) := by show takeStep now A (takeK now A S T k) k = _; rw [htk]; exact step_new ha hs (by omega)
            have hu : upd (upd T1 k (now, 2)) k (now + 2, 4) = upd T1 k (now + 2, 4) := by
              funext i
              unfold upd
              by_cases e : i = k
              · rw [if_pos e, if_pos e]
              · rw [if_neg e, if_neg e, if_neg e]
            rw [hu] at hst
            have Hst := Lib.hid hst
            have Hq := Lib.hid hq
            have HS1 := Lib.hid hIk.2.1
            have Ha := Lib.hid ha
            have q8 : (q : Int) < 8 := by omega
            clear hst htk hs ha k7 k8 k9 hz hcnt hcl hq hu
            go_wp2_with fail
            refine (ref_of r rs rt N _ _ A S1 T1 1 S1 HS1.out hvv hN _ hRf).mono ?_
            rw [Hq.out]
            rintro e w4 ⟨A4, c4, rfl, hn4, hm4, hr4, hf4, hb4⟩
            have hR4 := hRf.below' hb4
            have hown4 := own_below hown hb4
            have htf4 := htf.trans (TwoF.of_below rs rt hb4)
            have hS4 := hSt.of_block (hb4.block rs hSt.lt)
            have hT4 := hTm.of_block (hb4.block rt hTm.lt)
            have hB4 : Bk w4 r 54 #[.slice (some ⟨rs, 0, none⟩) N cs, .slice (some ⟨rt, 0, none⟩) N ct] := hR4.1
            clear hRf hown htf hSt hTm hb4 hr4 hf4 p0 p1 hcS hBr
            have p0 : w4.cell? ⟨r, 0, none⟩ = some (.slice (some ⟨rs, 0, none⟩) N cs) := hB4.cell 0
            have s0 := hS4.cell (i := k) (by omega)
            have f0 := hS4.frozen k
            have d4' := Ne.symm d4
            have ho1 := only_set w4 rs k (.int .i64 1)
            have hB5 := hB4.only ho1 d2
            have hT5 := hT4.of_block (ho1.block rt hT4.lt (by simpa using d4'))
            have hR6 := hR4.mark k (by omega) HS1.out Ha.out (now + 2, 4) (by omega)
            have ho2 := set2_only (w4.setCell ⟨rs, k, none⟩ (.int .i64 1)) rt (k * 2) (k * 2 + 1) (.int .i64 (now + 2)) (.int .i64 4)
            have hown6 := own_only (own_only hown4 ho1 hrs') ho2 hrt'
            have htf6 := htf4.trans ((TwoF.left rt ho1).trans (TwoF.right rs ho2))
            clear hR4 hown4 htf4 ho1 ho2 hS4 hT4 hB4
            go_upto_region 12 with (fail)
            generalize w4.setCell ⟨rs, k, none⟩ (.int .i64 1) = w5 at *
            clear p0 s0 f0
            have p1 : w5.cell? ⟨r, 1, none⟩ = some (.slice (some ⟨rt, 0, none⟩) N ct) := hB5.cell 1
            have t0 := hT5.cell (i := k * 2) (by omega)
            have t1 := hT5.cell (i := k * 2 + 1) (by omega)
            have r11 := hT5.frozen (k * 2)
            have r12 := hT5.frozen (k * 2 + 1)
            clear hT5 hB5
            go_upto_region 13 with (fail)
            generalize (w5.setCell ⟨rt, k * 2, none⟩ (.int .i64 (now + 2))).setCell ⟨rt, k * 2 + 1, none⟩ (.int .i64 4) = w6 at *
            clear p1 t0 t1 r11 r12
            have hsz6 : w.heap.size ≤ w6.heap.size := htf6.2.2.2.1
            go_wp2_with (at_builtin; go_must (refine wpList_append_new w6 rfl (.tmp 79) (.tmp 81) 22 rfl w.heap.size 3 1 8 el_int _ _ _ hown6 rfl _ rfl rfl (by intro u hu; simp at hu; subst hu; rfl) (by unfold maxLen; omega) (by omega) hsz6 ?_); intro v7 w7 hown7 hb7)
            have hfin : RtkRel w r rs rt N (.slice (some ⟨rs, 0, none⟩) N cs) (.slice (some ⟨rt, 0, none⟩) N ct) A S T now v7 (k + 1) w7 := by
              refine ⟨_, _, l1 ++ [(k : Int)], Hst.out, hR6.base hb7 hrw hrs' hrt', ?_, htf6.of_base rs rt hb7 (Nat.le_refl _)⟩
              have e9 : (l1 ++ [(k : Int)]).length = l1.length + 1 := by simp
              rw [e9, ← intVals_snoc]
              exact hown7
            clear hR6 hown6 htf6 hown7 hb7 hsz6 Hst
            go_roundw
            case rel => exact ⟨k + 1, by omega, by go_num, hfin⟩
            case measure => simp [intOf]; omega
          · have hst : takeK now A S T (k + 1) = (S1, T1, l1) := by show takeStep now A (takeK now A S T k) k = _; rw [htk]; exact step_skipS hs (by omega)
            have Hst := Lib.hid hst
            have Hq := Lib.hid hq
            have HS1 := Lib.hid hIk.2.1
            have q8 : ¬ (q : Int) < 8 := by omega
            clear hst htk hs ha k7 k8 k9 hz hcnt hcl hq
            go_wp2_with fail
            refine (ref_of r rs rt N _ _ A S1 T1 1 S1 HS1.out hvv hN _ hRf).mono ?_
            rw [Hq.out]
            rintro e w4 ⟨A4, c4, rfl, hn4, hm4, hr4, hf4, hb4⟩
            have hfin : RtkRel w r rs rt N (.slice (some ⟨rs, 0, none⟩) N cs) (.slice (some ⟨rt, 0, none⟩) N ct) A S T now u5 (k + 1) w4 := ⟨S1, T1, l1, Hst.out, hRf.below' hb4, own_below hown hb4, htf.trans (TwoF.of_below rs rt hb4)⟩
            clear hRf hown htf hSt hTm hb4 hr4 hf4 p0 p1 hcS hBr hvv
            go_wp2_with fail
            go_roundw
            case rel => exact ⟨k + 1, by omega, by go_num, hfin⟩
            case measure => simp [intOf]; omega
    · have hkN : k = N := by omega
      subst hkN
      obtain ⟨_, A', c, hv, hnc, hcm', hrd⟩ := Sl.own hown
      have hlt' := hown.lt
      subst hv
      have Htk := Lib.hid htk
      clear htk
      go_wp2_with fail
      go_ret
      exact ⟨S1, T1, l1, A', c, Htk.out, rfl, hnc, hcm', hrd, fun ad hA => by subst hA; exact (hlt' _ rfl).1, hRf, htf⟩
end Go.Proofs.Ytapanifgnpklpaa
