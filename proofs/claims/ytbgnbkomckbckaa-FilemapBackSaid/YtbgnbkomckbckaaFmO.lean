/-
  The reference's Sort.
-/
import Derived.Test.YtbgnbkomckbckaaFmJ
import Derived.Test.YtbgnbkomckbckaaFmN
import Derived.Lib.QuietBelow
import Derived.Deep.Cut
namespace Go.Proofs.Ytbgnbkomckbckaa
open Go.RowKit Go.Sort

theorem Rd.dropF {w : World} {g o : Nat} {l : List Fl} (h : Rd w (some ⟨g, o, none⟩) (fl l)) (k : Nat) : Rd w (some ⟨g, o + k * 2, none⟩) (fl (l.drop k)) := fun hn => by
  have hk : k < l.length := by
    by_cases h2 : k < l.length
    · exact h2
    · rw [List.drop_eq_nil_of_le (by omega)] at hn; exact absurd rfl hn
  obtain ⟨b, o', e, hc⟩ := h (by intro e; have := fl_len l; rw [e] at this; simp at this; omega)
  cases e
  refine ⟨g, o + k * 2, rfl, fun j u hj => ?_⟩
  have e1 : (fl l)[k * 2 + j]? = some u := by
    have h3 : fl l = fl (l.take k) ++ fl (l.drop k) := by rw [← fl_app, List.take_append_drop]
    rw [h3, List.getElem?_append_right (by rw [fl_len, List.length_take]; omega), fl_len, List.length_take, show k * 2 + j - min k l.length * 2 = j by omega]
    exact hj
  have := hc _ _ e1
  rw [show o + k * 2 + j = o + (k * 2 + j) by omega]
  exact this
theorem FRow.own {w : World} {base n : Nat} {v : Value} {l : List Fl} (h : w.ownsRow base 41 2 v n (fl l)) (hn : 0 < n) : ∃ g c, v = .slice (some ⟨g, 0, none⟩) n c ∧ n ≤ c ∧ c ≤ maxLen ∧ base ≤ g ∧ FRow w g l := by
  have hl : l.length = n := by have := h.1; rw [fl_len] at this; omega
  rcases h.2 with ⟨_, h0⟩ | ⟨g, cap, cur, hv, hb, hg, h1, h2, _, ht⟩
  · omega
  · exact ⟨g, cap, hv, h1, h2, hb, cur, hg, by rw [hl]; exact ht⟩
theorem cmp_gt (x y : Fl) : 0 < cmpB y.1 x.1 ↔ ltF x y := by
  rw [← ltF_cmp, show cmpB y.1 x.1 = - cmpB x.1 y.1 from cb_swap _ _]
  omega
theorem compareR_is (a b : ByteArray) (c : Int) (h : cmpB a b = c) (ha : a.size ≤ 100000000) (hb : b.size ≤ 100000000) (w : World) :
    Calls Try.prog 31 #[.string a, .string b] w fun e w' => e = .returned (.int .i64 c) ∧ Below w.heap.size w w' := by subst h; exact compareR_any a b w ha hb
theorem Rd.keepB {w0 w1 w2 : World} {B : Nat} {A : Option Addr} {xs : List Value} (h : Rd w0 A xs) (hA : ∀ ad, A = some ad → ad.block < B) (h1 : Below B w0 w1) (h2 : Below B w1 w2) : Rd w2 A xs := fun hn => by
  obtain ⟨b, o, e, hc⟩ := h hn
  have hb := hA _ e
  exact ⟨b, o, e, fun j u hj => ((h1.trans h2).cell (show b < B from hb)).trans (hc j u hj)⟩
/-- The rows that the sort has made so far. -/
def OutR (w : World) (l : List Fl) (i : Nat) (v : Value) : Prop := (i = 0 ∧ v = .slice none 0 0) ∨ ∃ g c, 0 < i ∧ v = .slice (some ⟨g, 0, none⟩) i c ∧ i ≤ c ∧ c ≤ maxLen ∧ FRow w g (sortF (l.take i))
theorem OutR.below' {w w' : World} {l : List Fl} {i : Nat} {v : Value} (h : OutR w l i v) (hb : Below w.heap.size w w') : OutR w' l i v := by
  rcases h with h | ⟨g, c, h0, h1, h2, h3, h4⟩
  · exact .inl h
  · exact .inr ⟨g, c, h0, h1, h2, h3, h4.below' hb⟩
/-- What the search from behind has passed. -/
def Past (l : List Fl) (x : Fl) (i k : Nat) : Prop := ∀ b ∈ (sortF (l.take i)).drop k, ltF x b
theorem past_end {l : List Fl} {x : Fl} {i k : Nat} (hx : l[i]? = some x) (h : Past l x i k) (h1 : k = 0 ∨ ∃ y, (sortF (l.take i))[k - 1]? = some y ∧ ¬ ltF x y) (hk : k ≤ (sortF (l.take i)).length) :
    sortF (l.take (i + 1)) = (sortF (l.take i)).take k ++ x :: (sortF (l.take i)).drop k := by
  have e : l.take (i + 1) = l.take i ++ [x] := by rw [List.take_add_one, hx]; rfl
  rw [e]
  refine sortF_step (List.take_append_drop _ _).symm ?_ h
  rcases h1 with rfl | ⟨y, hy, hlt⟩
  · exact .inl (List.take_zero)
  · rcases Nat.eq_zero_or_pos k with rfl | hp
    · exact .inl (List.take_zero)
    · refine .inr ⟨(sortF (l.take i)).take (k - 1), y, ?_, hlt⟩
      have h2 : (sortF (l.take i)).take k = (sortF (l.take i)).take (k - 1 + 1) := by rw [Nat.sub_add_cancel hp]
      rw [h2, List.take_add_one, hy]
      rfl
theorem past_step {l : List Fl} {x y : Fl} {i k : Nat} (h : Past l x i (k + 1)) (hy : (sortF (l.take i))[k]? = some y) (hlt : ltF x y) : Past l x i k := fun b hb => by
  rw [drop_cons hy] at hb
  rcases List.mem_cons.1 hb with rfl | hb
  · exact hlt
  · exact h b hb
theorem sorted_len {l : List Fl} {i : Nat} (hi : i ≤ l.length) : (sortF (l.take i)).length = i := by rw [(sortF_law _).2.2, List.length_take]; omega

theorem fl_app_x (x : Fl) (a b : List Fl) : fl a ++ [.string x.1, .string x.2] ++ fl b = fl (a ++ x :: b) := by
  rw [fl_app, List.append_assoc]; rfl

set_option maxRecDepth 20000 in
set_option maxHeartbeats 16000000 in
theorem rsort_any (l : List Fl) (A : Option Addr) (n c : Nat) (hn : l.length = n) (hl : n ≤ 1000) (hsz : ∀ x ∈ l, x.1.size ≤ 100000000 ∧ x.2.size ≤ 100000000) (w : World) (hr : Rd w A (fl l)) :
    Calls Try.prog 16 #[.slice A n c] w fun e w' => ∃ v, e = .returned v ∧ OutR w' l n v ∧ Below w.heap.size w w' := by
  have Hn := Lib.hid hn
  have HZ := Lib.hid hsz
  have HR := Lib.hid hr
  have mixed : Try.prog.follows Departure.mixedOrders = true := by kernel_rfl
  clear hn hsz
  go_enter Try.func16, Try.ntmps16
  go_wp2_with fail
  go_loopw [3, 4] (fun v3 vi wr => ∃ (i : Nat) (v : Value), vi = .int .i64 i ∧ v3 = v ∧ i ≤ n ∧ OutR wr l i v ∧ Rd wr A (fl l) ∧ Below w.heap.size w wr) (fun _ vi _ => n - (intOf vi).toNat)
  case atStart => exact ⟨0, _, rfl, rfl, by omega, .inl ⟨rfl, rfl⟩, hr, Below.refl _ _⟩
  case round =>
    clear hr
    obtain ⟨i, v, rfl, rfl, hi, hO, hrA, hb⟩ := hrel
    by_cases hlt : (i : Int) < (n : Int)
    · have hil : i < l.length := by rw [Hn.out]; omega
      obtain ⟨x, hx⟩ : ∃ x, l[i]? = some x := ⟨_, getD_some hil⟩
      have HX := Lib.hid hx
      have hxs := (HZ.out x (List.mem_of_getElem? hx)).1
      obtain ⟨b, o, rfl, q0, q1⟩ := hrA.file hx
      obtain ⟨xp, xd⟩ := x
      rw [show (o + (i * 2 + 1) : Nat) = o + i * 2 + 1 by omega] at q1
      have HSL := Lib.hid (sorted_len (l := l) (i := i) (by omega))
      have HZ2 := Lib.hid (fun (y : Fl) (hy : y ∈ sortF (l.take i)) => HZ.out y (List.mem_of_mem_take (sortF_mem.1 hy)))
      clear hx hil
      rcases hO with ⟨rfl, rfl⟩ | ⟨g, cb, hi0, rfl, hcb, hcm, hF⟩
      · have e0 : sortF (l.take (0 + 1)) = [(xp, xd)] := by
          have h := past_end (l := l) (x := (xp, xd)) (i := 0) (k := 0) HX.out (fun b hb => by simp [sortF] at hb) (.inl rfl) (by omega)
          rw [h]; simp [sortF]
        have HE0 := Lib.hid e0
        have HB0 : ∀ ad, some (⟨b, o, none⟩ : Addr) = some ad → ad.block < w.heap.size := by
          obtain ⟨b', o', e, c0, _⟩ := HR.out.file HX.out
          cases e
          intro ad h
          cases h
          exact World.block_lt_of_cell? w _ c0
        have HBB := Lib.hid HB0
        clear e0 HB0
        simp only [Nat.zero_mul, Nat.add_zero] at q0 q1
        go_wp2_with fail
        go_loopw [5] (fun vk wr2 => vk = .int .i64 0 ∧ Rd wr2 (some ⟨b, o, none⟩) (fl l) ∧ wr2.cell? ⟨b, o, none⟩ = some (.string xp) ∧ wr2.cell? ⟨b, o + 1, none⟩ = some (.string xd) ∧ Below w.heap.size w wr2) (fun vk _ => 0)
        case atStart => exact ⟨rfl, hrA, q0, q1, hb⟩
        case round =>
          clear hrA q0 q1 hb
          obtain ⟨rfl, hrA, q0, q1, hb⟩ := hrel
          have hsz0 : w.heap.size ≤ wr.drew.heap.size := hb.size
          go_wp2_with fail
          go_big_region_o
          all_goals
            go_upto_region 10 with (fail)
            go_upto_region 11 with (at_builtin; go_must (refine wpList_append_new wr.drew rfl (.tmp 39) (.tmp 44) 22 rfl w.heap.size 41 2 32 el_file _ _ _ (World.ownsRow_nil _ _ _ _) rfl _ rfl rfl (by intro u hu; simp at hu; rcases hu with rfl | rfl <;> rfl) (by unfold maxLen; omega) (by omega) hsz0 ?_); intro v2 w2 hown2 hb2)
            have hs2 := Below.size (hb.drew.trans hb2)
            go_wp2_with (at_builtin; go_must (refine wpList_append_src w2 rfl (.tmp 46) (.tmp 49) 22 rfl w.heap.size 41 2 32 el_file _ _ _ hown2 rfl none 0 0 [] (Rd.nil _ _) rfl rfl (by simp) (by unfold maxLen; omega) (by omega) hs2 ?_); intro v3 w3 hown3 hb3)
            have hbw : Below w.heap.size w w3 := (hb.drew.trans hb2).trans hb3
            have hrA3 : Rd w3 (some ⟨b, o, none⟩) (fl l) := (show Rd wr.drew (some ⟨b, o, none⟩) (fl l) from hrA).keepB HBB.out hb2 hb3
            have HV := Lib.hid (show OutR w3 l (0 + 1) v3 from by
              simp only [Nat.zero_add, List.nil_append, List.append_nil, Nat.add_zero] at hown3
              have hq : [Value.string xp, Value.string xd] = fl (sortF (l.take (0 + 1))) := by rw [HE0.out]; rfl
              rw [hq] at hown3
              obtain ⟨g3, c3, e3, k1, k2, _, k4⟩ := FRow.own hown3 (by omega)
              exact .inr ⟨g3, c3, by omega, e3, k1, k2, k4⟩)
            go_round
            case rel => exact ⟨1, _, by first | rfl | go_num, rfl, by omega, HV.out, hrA3, hbw⟩
            case measure => simp [intOf]; omega
      · go_wp2_with fail
        go_loopw [5] (fun vk wr2 => ∃ k : Nat, vk = .int .i64 k ∧ k ≤ i ∧ Hid (Past l (xp, xd) i k) ∧ FRow wr2 g (sortF (l.take i)) ∧ Rd wr2 (some ⟨b, o, none⟩) (fl l) ∧ wr2.cell? ⟨b, o + i * 2, none⟩ = some (.string xp) ∧ wr2.cell? ⟨b, o + i * 2 + 1, none⟩ = some (.string xd) ∧ Below w.heap.size w wr2) (fun vk _ => (intOf vk).toNat)
        case atStart => exact ⟨i, rfl, Nat.le_refl _, Lib.hid (fun b hb => by rw [List.drop_eq_nil_of_le (by rw [HSL.out]; exact Nat.le_refl _)] at hb; cases hb), hF, hrA, q0, q1, hb⟩
        case round =>
          clear hF hrA q0 q1 hb
          obtain ⟨k, rfl, hk, hP, hF, hrA, q0, q1, hb⟩ := hrel
          by_cases hk0 : (0 : Int) < (k : Int)
          · obtain ⟨kp, rfl⟩ : ∃ kp, k = kp + 1 := ⟨k - 1, by omega⟩
            obtain ⟨y, hy⟩ : ∃ y, (sortF (l.take i))[kp]? = some y := ⟨_, getD_some (by rw [HSL.out]; omega)⟩
            have HY := Lib.hid hy
            obtain ⟨y0, y1⟩ := hF.cell hy
            have hys := (HZ2.out y (List.mem_of_getElem? hy)).1
            obtain ⟨yp, yd⟩ := y
            obtain ⟨cc, hc⟩ : ∃ cc, cmpB yp xp = cc := ⟨_, rfl⟩
            have hcl := cmp_gt (xp, xd) (yp, yd)
            rw [show cmpB (yp, yd).1 (xp, xd).1 = cc from hc] at hcl
            have HC := Lib.hid hc
            have q0G : ∀ d os, (grow (redrawn wr d) os).cell? ⟨b, o + i * 2, none⟩ = some (.string xp) := fun d os => cell_regrown q0 d os
            have y0G : ∀ d os, (grow (redrawn wr d) os).cell? ⟨g, kp * 2, none⟩ = some (.string yp) := fun d os => cell_regrown y0 d os
            have hwp : IntKind.i64.wrap (kp : Int) = (kp : Int) := by rw [IntKind.wrap_i64]; omega
            have kz : (kp : Int) < (i : Int) := by omega
            clear hy hc y0 y1
            by_cases hcc : 0 < cc
            · have HP2 := Lib.hid (past_step hP.out HY.out (hcl.1 hcc))
              clear hcl
              go_wp2_with fail
              refine wp_region_quiet_below (by assumption) (by kernel_rfl) ?_
              repeat (quiet_step (first | (go_at_call 31; refine Calls.regrown_of (compareR_is yp xp cc HC.out hys hxs _))))
              refine wpQuiet_nil ?_
              intro _ hw'
              obtain ⟨⟨nq, osq⟩, hw''⟩ := hw'
              subst hw''
              go_wp2_with fail
              have hbg := below_regrown wr nq osq
              go_round
              case rel => exact ⟨kp, by first | rfl | go_num, by omega, HP2, hF.below' hbg, hrA.below hbg, q0G nq osq, (hbg.cell (World.block_lt_of_cell? wr _ q1)).trans q1, bl hb hbg⟩
              case measure => simp [intOf]
            · have hlt2 : ¬ ltF (xp, xd) (yp, yd) := fun h => hcc (hcl.2 h)
              have HLT := Lib.hid hlt2
              clear hcl hlt2
              go_wp2_with fail
              refine wp_region_quiet_below (by assumption) (by kernel_rfl) ?_
              repeat (quiet_step (first | (go_at_call 31; refine Calls.regrown_of (compareR_is yp xp cc HC.out hys hxs _))))
              refine wpQuiet_nil ?_
              intro _ hw'
              obtain ⟨⟨nq, osq⟩, hw''⟩ := hw'
              subst hw''
              have hbg := below_regrown wr nq osq
              have hF' := hF.below' hbg
              have hrA' := hrA.below hbg
              have q0' := q0G nq osq
              have q1' := (hbg.cell (World.block_lt_of_cell? wr _ q1)).trans q1
              have hb' := bl hb hbg
              clear hF hrA q0 q1 hb q0G y0G hbg
              generalize grow (redrawn wr nq) osq = wr at *
              have hF := hF'
              have hrA := hrA'
              have q0 := q0'
              have q1 := q1'
              have hb := hb'
              clear hF' hrA' q0' q1' hb'
              obtain ⟨SK, hSK⟩ : ∃ S, (sortF (l.take i)).take (kp + 1) = S := ⟨_, rfl⟩
              obtain ⟨SD, hSD⟩ : ∃ S, (sortF (l.take i)).drop (kp + 1) = S := ⟨_, rfl⟩
              have HPE := Lib.hid (show sortF (l.take (i + 1)) = SK ++ (xp, xd) :: SD from by rw [← hSK, ← hSD]; exact past_end HX.out hP.out (.inr ⟨(yp, yd), by rw [Nat.add_sub_cancel]; exact HY.out, HLT.out⟩) (by rw [HSL.out]; omega))
              have HSK := Lib.hid (rfl : SK = SK)
              have HSD := Lib.hid (rfl : SD = SD)
              have HLK := Lib.hid (show (fl SK).length = (kp + 1) * 2 by rw [fl_len, ← hSK, List.length_take, HSL.out]; omega)
              have HLD := Lib.hid (show (fl SD).length = (i - (kp + 1)) * 2 by rw [fl_len, ← hSD, List.length_drop, HSL.out])
              have hrK : Rd wr (some ⟨g, 0, none⟩) (fl SK) := by rw [← hSK]; exact hF.rd.takeF (kp + 1)
              have hrD : Rd wr (some ⟨g, 0 + (kp + 1) * 2, none⟩) (fl SD) := by rw [← hSD]; exact hF.rd.dropF (kp + 1)
              rw [Nat.zero_add] at hrD
              clear hSK hSD
              by_cases hck : cb = (kp + 1)
              · have HIK := Lib.hid (show i = (kp + 1) by omega)
                have hSD0 : SD = [] := List.eq_nil_of_length_eq_zero (by have := HLD.out; have := HIK.out; rw [fl_len] at *; omega)
                have HSD0 := Lib.hid hSD0
                clear hrD hSD0
                go_upto_region 10 with (at_builtin; go_must (refine wpList_append_src wr rfl (.tmp 34) (.tmp 37) 22 rfl wr.heap.size 41 2 32 el_file _ _ _ (World.ownsRow_nil _ _ _ _) rfl _ _ _ (fl SK) hrK HLK.out rfl (fl_one _) (by unfold maxLen; omega) (by omega) (Nat.le_refl _) ?_); intro v1 w1 hown1 hb1; simp only [Nat.zero_add, List.nil_append] at hown1)
                have q0w := (hb1.cell (World.block_lt_of_cell? wr _ q0)).trans q0
                have q1w := (hb1.cell (World.block_lt_of_cell? wr _ q1)).trans q1
                have hs1 := hb1.size
                go_upto_region 11 with (at_builtin; go_must (refine wpList_append_new w1 rfl (.tmp 39) (.tmp 44) 22 rfl wr.heap.size 41 2 32 el_file _ _ _ hown1 rfl _ rfl rfl (by intro u hu; simp at hu; rcases hu with rfl | rfl <;> rfl) (by unfold maxLen; omega) (by omega) hs1 ?_); intro v2 w2 hown2 hb2)
                have hb2w := hb1.trans hb2
                have hs2 := hb2w.size
                go_wp2_with (at_builtin; go_must (refine wpList_append_src w2 rfl (.tmp 46) (.tmp 49) 22 rfl wr.heap.size 41 2 32 el_file _ _ _ hown2 rfl _ _ _ (fl SD) (by rw [HSD0.out]; exact Rd.nil _ _) HLD.out rfl (fl_one _) (by unfold maxLen; omega) (by omega) hs2 ?_); intro v3 w3 hown3 hb3)
                have HV := Lib.hid (show OutR w3 l (i + 1) v3 from by
                  have hq : fl SK ++ #[.string xp, .string xd].toList ++ fl SD = fl (sortF (l.take (i + 1))) := by rw [HPE.out, ← fl_app_x (xp, xd), ← HSK.out, ← HSD.out]
                  rw [hq] at hown3
                  have hnn : (kp + 1) + 1 + (i - (kp + 1)) = i + 1 := by omega
                  rw [hnn] at hown3
                  obtain ⟨g3, c3, e3, k1, k2, _, k4⟩ := FRow.own hown3 (by omega)
                  exact .inr ⟨g3, c3, by omega, e3, k1, k2, k4⟩)
                have hb3w := hb2w.trans hb3
                have hrA3 := hrA.below hb3w
                have hbw := bl hb hb3w
                go_round
                case rel => exact ⟨i + 1, _, by first | rfl | go_num, rfl, by omega, HV.out, hrA3, hbw⟩
                case measure => simp [intOf]; omega
              ·
                go_upto_region 10 with (at_builtin; go_must (refine wpList_append_src wr rfl (.tmp 34) (.tmp 37) 22 rfl wr.heap.size 41 2 32 el_file _ _ _ (World.ownsRow_nil _ _ _ _) rfl _ _ _ (fl SK) hrK HLK.out rfl (fl_one _) (by unfold maxLen; omega) (by omega) (Nat.le_refl _) ?_); intro v1 w1 hown1 hb1; simp only [Nat.zero_add, List.nil_append] at hown1)
                have q0w := (hb1.cell (World.block_lt_of_cell? wr _ q0)).trans q0
                have q1w := (hb1.cell (World.block_lt_of_cell? wr _ q1)).trans q1
                have hs1 := hb1.size
                have hrD1 := hrD.below hb1
                go_upto_region 11 with (at_builtin; go_must (refine wpList_append_new w1 rfl (.tmp 39) (.tmp 44) 22 rfl wr.heap.size 41 2 32 el_file _ _ _ hown1 rfl _ rfl rfl (by intro u hu; simp at hu; rcases hu with rfl | rfl <;> rfl) (by unfold maxLen; omega) (by omega) hs1 ?_); intro v2 w2 hown2 hb2)
                have hb2w := hb1.trans hb2
                have hrD2 := hrD.below hb2w
                have hs2 := hb2w.size
                go_wp2_with (at_builtin; go_must (refine wpList_append_src w2 rfl (.tmp 46) (.tmp 49) 22 rfl wr.heap.size 41 2 32 el_file _ _ _ hown2 rfl _ _ _ (fl SD) hrD2 HLD.out rfl (fl_one _) (by unfold maxLen; omega) (by omega) hs2 ?_); intro v3 w3 hown3 hb3)
                have HV := Lib.hid (show OutR w3 l (i + 1) v3 from by
                  have hq : fl SK ++ #[.string xp, .string xd].toList ++ fl SD = fl (sortF (l.take (i + 1))) := by rw [HPE.out, ← fl_app_x (xp, xd), ← HSK.out, ← HSD.out]
                  rw [hq] at hown3
                  have hnn : (kp + 1) + 1 + (i - (kp + 1)) = i + 1 := by omega
                  rw [hnn] at hown3
                  obtain ⟨g3, c3, e3, k1, k2, _, k4⟩ := FRow.own hown3 (by omega)
                  exact .inr ⟨g3, c3, by omega, e3, k1, k2, k4⟩)
                have hb3w := hb2w.trans hb3
                have hrA3 := hrA.below hb3w
                have hbw := bl hb hb3w
                go_round
                case rel => exact ⟨i + 1, _, by first | rfl | go_num, rfl, by omega, HV.out, hrA3, hbw⟩
                case measure => simp [intOf]; omega
          · obtain rfl : k = 0 := by omega
            go_wp2_with fail
            go_big_region_o
            all_goals
              have hF' : FRow wr.drew g (sortF (l.take i)) := hF
              have hrA' : Rd wr.drew (some ⟨b, o, none⟩) (fl l) := hrA
              have q0' : wr.drew.cell? ⟨b, o + i * 2, none⟩ = some (.string xp) := q0
              have q1' : wr.drew.cell? ⟨b, o + i * 2 + 1, none⟩ = some (.string xd) := q1
              have hb' := hb.drew
              clear hF hrA q0 q1 hb
              generalize wr.drew = wr at *
              have hF := hF'
              have hrA := hrA'
              have q0 := q0'
              have q1 := q1'
              have hb := hb'
              clear hF' hrA' q0' q1' hb'
              obtain ⟨SK, hSK⟩ : ∃ S, (sortF (l.take i)).take 0 = S := ⟨_, rfl⟩
              obtain ⟨SD, hSD⟩ : ∃ S, (sortF (l.take i)).drop 0 = S := ⟨_, rfl⟩
              have HPE := Lib.hid (show sortF (l.take (i + 1)) = SK ++ (xp, xd) :: SD from by rw [← hSK, ← hSD]; exact past_end HX.out hP.out (.inl rfl) (by rw [HSL.out]; omega))
              have HSK := Lib.hid (rfl : SK = SK)
              have HSD := Lib.hid (rfl : SD = SD)
              have HLK := Lib.hid (show (fl SK).length = 0 * 2 by rw [fl_len, ← hSK, List.length_take, HSL.out]; omega)
              have HLD := Lib.hid (show (fl SD).length = (i - 0) * 2 by rw [fl_len, ← hSD, List.length_drop, HSL.out])
              have hrK : Rd wr (some ⟨g, 0, none⟩) (fl SK) := by rw [← hSK]; exact hF.rd.takeF 0
              have hrD : Rd wr (some ⟨g, 0 + 0 * 2, none⟩) (fl SD) := by rw [← hSD]; exact hF.rd.dropF 0
              rw [Nat.zero_add] at hrD
              clear hSK hSD
              by_cases hck : cb = 0
              · exfalso; omega
              ·
                go_upto_region 10 with (at_builtin; go_must (refine wpList_append_src wr rfl (.tmp 34) (.tmp 37) 22 rfl wr.heap.size 41 2 32 el_file _ _ _ (World.ownsRow_nil _ _ _ _) rfl _ _ _ (fl SK) hrK HLK.out rfl (fl_one _) (by unfold maxLen; omega) (by omega) (Nat.le_refl _) ?_); intro v1 w1 hown1 hb1; simp only [Nat.zero_add, List.nil_append] at hown1)
                have q0w := (hb1.cell (World.block_lt_of_cell? wr _ q0)).trans q0
                have q1w := (hb1.cell (World.block_lt_of_cell? wr _ q1)).trans q1
                have hs1 := hb1.size
                have hrD1 := hrD.below hb1
                go_upto_region 11 with (at_builtin; go_must (refine wpList_append_new w1 rfl (.tmp 39) (.tmp 44) 22 rfl wr.heap.size 41 2 32 el_file _ _ _ hown1 rfl _ rfl rfl (by intro u hu; simp at hu; rcases hu with rfl | rfl <;> rfl) (by unfold maxLen; omega) (by omega) hs1 ?_); intro v2 w2 hown2 hb2)
                have hb2w := hb1.trans hb2
                have hrD2 := hrD.below hb2w
                have hs2 := hb2w.size
                go_wp2_with (at_builtin; go_must (refine wpList_append_src w2 rfl (.tmp 46) (.tmp 49) 22 rfl wr.heap.size 41 2 32 el_file _ _ _ hown2 rfl _ _ _ (fl SD) hrD2 HLD.out rfl (fl_one _) (by unfold maxLen; omega) (by omega) hs2 ?_); intro v3 w3 hown3 hb3)
                have HV := Lib.hid (show OutR w3 l (i + 1) v3 from by
                  have hq : fl SK ++ #[.string xp, .string xd].toList ++ fl SD = fl (sortF (l.take (i + 1))) := by rw [HPE.out, ← fl_app_x (xp, xd), ← HSK.out, ← HSD.out]
                  rw [hq] at hown3
                  have hnn : 0 + 1 + (i - 0) = i + 1 := by omega
                  rw [hnn] at hown3
                  obtain ⟨g3, c3, e3, k1, k2, _, k4⟩ := FRow.own hown3 (by omega)
                  exact .inr ⟨g3, c3, by omega, e3, k1, k2, k4⟩)
                have hb3w := hb2w.trans hb3
                have hrA3 := hrA.below hb3w
                have hbw := bl hb hb3w
                go_round
                case rel => exact ⟨i + 1, _, by first | rfl | go_num, rfl, by omega, HV.out, hrA3, hbw⟩
                case measure => simp [intOf]; omega
    · obtain rfl : i = n := by omega
      go_wp2_with fail
      go_ret
      exact ⟨_, rfl, hO, hb⟩
end Go.Proofs.Ytbgnbkomckbckaa
