/-
  The law WindowAll: the walk.
-/
import Derived.Test.YtapanifgnpklpaaWinG
import Derived.Test.YtapanifgnpklpaaFull
import Derived.Test.YtapanifgnpklpaaFrame
import Derived.Deep.RegionWith
namespace Go.Proofs.Ytapanifgnpklpaa
open Go.RowKit

/-- Append of another slice's cells, nil or not: and what is not the row's own block is as it was. -/
theorem wpList_append_sr {P : Program} (w : World) {ops : Array Oper} {rest : List Oper} {o : Oper} {a : Act} {Q : Exit → Act → World → Prop} (hgd : o.guard = none) (s x : Operand) (t : TypeId)
    (ho : o.op = .call { callee := .builtin .append, args := #[s, x], argTypes := #[t, t] })
    (base : Nat) (e : TypeId) (size bytes : Nat) (hel : El P t e size bytes)
    (v : Value) (n : Nat) (xs : List Value) (hown : w.ownsRow base e size v n xs) (hs : a.eval s = v) (A : Option Addr) (m c : Nat) (news : List Value) (hr : Rd w A news) (hl : news.length = m * size)
    (hx : a.eval x = .slice A m c) (h1 : ∀ u ∈ news, u.oneCell' = true)
    (h63 : n + m ≤ maxLen) (hbytes : (n + m) * bytes ≤ 140737488355328) (hbase : base ≤ w.heap.size)
    (h : ∀ v' w', w'.ownsRow base e size v' (n + m) (xs ++ news) → w.grownBy w' v.ownBlock → wpList P ops Q rest (a.put o.dst v') w') : wpList P ops Q (o :: rest) a w := by
  obtain ⟨ht, hsz, i, z, hi, hz, hsize, hby, hzs⟩ := hel
  cases A with
  | none =>
    have hm : m = 0 := by
      rcases Nat.eq_zero_or_pos m with h0 | h0
      · exact h0
      · obtain ⟨_, _, e, _⟩ := hr (by intro e; rw [e] at hl; have := Nat.mul_pos h0 hsz; simp at hl; omega)
        cases e
    subst hm
    have hn : news = [] := List.eq_nil_of_length_eq_zero (by simpa using hl)
    subst hn
    have hrun : (Builtin.append_ #[t, t] o.type #[v, .slice none 0 c]).run P w = .ok v w := by
      rcases hown.2 with ⟨rfl, rfl⟩ | ⟨g, cap, cur, rfl, _, _, hnc, _⟩
      · simp [Builtin.append_, run_underlying ht, sizeOf, typeInfo, hi, Builtin.lenOf, Builtin.firstCells]
      · simp [Builtin.append_, run_underlying ht, sizeOf, typeInfo, hi, Builtin.lenOf, Builtin.firstCells, hnc, storeCells]
    refine wpList_plain hgd fun K hK => ?_
    unfold Oper.wp
    simp [execOp, ho, resolve, invoke, builtin, hs, hx, hrun, Result.andThen]
    exact hK _ _ (h v w (by simpa using hown) ⟨rfl, rfl, rfl, Nat.le_refl _, fun _ _ _ => rfl⟩)
  | some ad =>
    refine wpList_append_own w hgd s x t ho base e i z size bytes ht hi hz hsize hby hzs hsz v n xs hs hown ad m c news hx hl ?_ h1 h63 hbytes hbase fun v' w' h2 h3 _ => h v' w' h2 h3
    intro j u hj
    obtain ⟨b, o, e, hc⟩ := hr (by intro e; rw [e] at hj; simp at hj)
    cases e
    rw [add_mk]
    exact hc j u hj
theorem Rd.row {w w' : World} {row : Option Nat} {A : Option Addr} {xs : List Value} (h : Rd w A xs) (hg : w.grownBy w' row) (ho : ∀ ad, A = some ad → some ad.block ≠ row) : Rd w' A xs := fun hn => by
  obtain ⟨b, o, e, hc⟩ := h hn
  refine ⟨b, o, e, fun j u hj => ?_⟩
  have hcell := hc j u hj
  have hlt := World.block_lt_of_cell? w _ hcell
  exact (World.cell?_of_block (w := w) (hg.block b hlt (ho _ e))).trans hcell
theorem one_ints (l : List Int) : ∀ u ∈ intVals l, u.oneCell' = true := by
  intro u hu
  obtain ⟨b, _, rfl⟩ := List.mem_map.1 hu
  rfl
theorem intVals_app (a b : List Int) : intVals a ++ intVals b = intVals (a ++ b) := by simp [intVals]
theorem full_is (L : List Bool) (h : cntP L L.length = L.length) (w : World) (hL : L.length ≤ 256) : Calls Try.prog 18 #[.agg #[.int .i64 (L.length : Nat), .int .u64 (wdN L 0 : Nat), .int .u64 (wdN L 1 : Nat), .int .u64 (wdN L 2 : Nat), .int .u64 (wdN L 3 : Nat)]] w fun e w' => e = .returned (.bool true) ∧ Below w.heap.size w w' := by
  have := full_any L w hL
  rw [h] at this
  simp only [beq_self_eq_true] at this
  exact this

/-- What holds at each round. -/
def AllRel (w : World) (g N base : Nat) (v : Value) (r : Nat) (wr : World) : Prop :=
  ∃ T p, p = min (8 * r) N ∧ WinAt wr g (N : Nat) (rng N 0 p) (rng N p p) T ∧ wr.ownsRow base 3 1 v p (intVals (nums 0 p)) ∧ Below w.heap.size w wr ∧ base ≤ wr.heap.size

set_option maxRecDepth 20000 in
set_option maxHeartbeats 4000000 in
theorem windowAll_walk (n : Int) (w : World) (_l : -9223372036854775808 ≤ n) (_u : n ≤ 9223372036854775807) : Calls Try.prog 4 #[.int .i64 n] w (Yes w) := by
  obtain ⟨N, hN⟩ : ∃ N, clampB n = N := ⟨_, rfl⟩
  have hN256 : N ≤ 256 := by rw [← hN]; exact clampB_le n
  have hL : newB n = rng N 0 0 := by rw [rng_empty, ← hN]; rfl
  have HN := Lib.hid hN
  have HL := Lib.hid hL
  clear hN hL
  go_enter Try.func4, Try.ntmps4
  go_wp2_with fail
  (with_reducible refine (wnew_is n N (rng N 0 0) HN.out HL.out _).mono ?_)
  rintro e w1 ⟨g, rfl, hg, hW1, hb1⟩
  have hg1 := hW1.lt
  go_wp2_with fail
  (with_reducible refine (acked_is g _ _ _ _ _ hW1).mono ?_)
  rintro e w2 ⟨rfl, hb2⟩
  go_wp2_with fail
  (with_reducible refine (size_is (rng N 0 0) (N : Nat) (by rw [rng_length]) _).mono ?_)
  rintro e w3 ⟨rfl, hb3⟩
  have hrel0 : AllRel w g N w1.heap.size (.slice none 0 0) 0 w3 := ⟨tz, 0, by omega, (hW1.below' hb2).below' hb3, World.ownsRow_nil _ _ _ _, bl (bl hb1 hb2) hb3, by have := hb2.size; have := hb3.size; omega⟩
  obtain ⟨base, hbase⟩ : ∃ base, w1.heap.size = base := ⟨_, rfl⟩
  rw [hbase] at hrel0 hg1
  clear hW1 hb1 hb2 hb3 hbase
  go_upto_region 5 with (fail)
  go_loopw [5, 6] (fun v nw wr => ∃ r : Nat, r ≤ 41 ∧ nw = .int .i64 r ∧ AllRel w g N base v r wr) (fun _ nw _ => 41 - (intOf nw).toNat)
  case atStart => exact ⟨0, by omega, rfl, hrel0⟩
  case round =>
    clear hrel0
    obtain ⟨r, hr41, rfl, T, p, hp, hW, hown, hb, hbs⟩ := hrel
    by_cases hlt : (r : Int) ≤ 40
    · obtain ⟨q, hq⟩ : ∃ q, q = max p (min N (p + 8)) := ⟨_, rfl⟩
      obtain ⟨T1, htk⟩ := takeK_rng (r : Int) N p N T (by omega) (Nat.le_refl _)
      rw [← hq] at htk
      have hpq : p ≤ q ∧ q ≤ N ∧ q ≤ p + 8 ∧ q = min (8 * (r + 1)) N := by omega
      have Hp := Lib.hid hp
      have Hq := Lib.hid hq
      have Hpq := Lib.hid hpq
      have Htk := Lib.hid htk
      clear hp hq hpq htk
      go_wp2_with fail
      refine (take_any g N (rng N 0 p) (rng N p p) T (r : Int) _ hW (by rw [rng_length]; omega) (by rw [rng_length]; omega) hN256 (by omega) (by omega)).mono ?_
      rintro e w4 ⟨S1, T2, l1, A1, c1, h1, rfl, hc1, hm1, hr1, hf1, hW4, ho4⟩
      rw [Htk.out] at h1
      obtain ⟨rfl, rfl, rfl⟩ : rng N p q = S1 ∧ T1 = T2 ∧ nums p q = l1 := by simpa using h1
      have hown4 := own_only hown ho4 hg1
      have hownlt := hown.lt
      have hb4 : Below w.heap.size w w4 := hb.trans (below_only ho4 hg hb.size)
      have hbs4 : base ≤ w4.heap.size := Nat.le_trans hbs ho4.size
      have hA1g : ∀ ad, A1 = some ad → ad.block ≠ g := fun ad h => by have := hf1 ad h; have := hW.lt; omega
      have hA1o : ∀ ad, A1 = some ad → some ad.block ≠ u5.ownBlock := fun ad h e => by have := hf1 ad h; have := (hownlt _ e.symm).2; omega
      have hgo : some g ≠ u5.ownBlock := fun e => by have := (hownlt _ e.symm).1; omega
      have hln : (nums p q).length = q - p := nums_length p q
      rw [hln] at hc1 ⊢
      clear h1 Htk hW hown ho4 hf1 hownlt hb hbs
      go_wp2_with (at_builtin; go_must (refine wpList_append_sr w4 rfl (.tmp 23) (.tmp 24) 22 rfl base 3 1 8 el_int _ _ _ hown4 rfl A1 (q - p) c1 (intVals (nums p q)) hr1 (by simp [intVals, hln]) rfl (one_ints _) (by have := Hpq.out; unfold maxLen; omega) (by have := Hpq.out; omega) hbs4 ?_); intro v5 w5 hown5 ho5)
      have hW5 := hW4.of_block (ho5.block g hW4.lt hgo)
      have hr5 := hr1.row ho5 hA1o
      have hpq2 : p + (q - p) = q := by have := Hpq.out; omega
      have hq8 : q ≤ p + 8 := by have := Hpq.out; omega
      have hp256 : p ≤ 256 := by have := Hpq.out; omega
      have hown5' : w5.ownsRow base 3 1 v5 q (intVals (nums 0 q)) := by
        rw [intVals_app, nums_app 0 p q (by omega) Hpq.out.1, hpq2] at hown5
        exact hown5
      have hb5 : Below w.heap.size w w5 := hb4.grown ho5 hb4.size (fun k hk => by have := (hown4.lt k hk).1; omega)
      have hbs5 : base ≤ w5.heap.size := Nat.le_trans hbs4 ho5.size
      clear hW4 hr1 hA1o hgo hown4 hb4 hbs4 hown5 ho5 hm1
      (with_reducible refine (acked_is g _ _ _ _ _ hW5).mono ?_)
      rintro e w6 ⟨rfl, hb6⟩
      have ha6 := (Below.refl w6.heap.size w6).alloc (Nat.le_refl _) (.cells #[.int .i64 ((rng N 0 p).length : Nat), .int .u64 (wdN (rng N 0 p) 0 : Nat), .int .u64 (wdN (rng N 0 p) 1 : Nat), .int .u64 (wdN (rng N 0 p) 2 : Nat), .int .u64 (wdN (rng N 0 p) 3 : Nat)] 39)
      have hb6a := bl hb6 ha6
      have hW7 := hW5.below' hb6a
      have hr7 := hr5.below hb6a
      have hown7 := own_below hown5' hb6a
      have hb7 : Below w.heap.size w (w6.alloc (.cells #[.int .i64 ((rng N 0 p).length : Nat), .int .u64 (wdN (rng N 0 p) 0 : Nat), .int .u64 (wdN (rng N 0 p) 1 : Nat), .int .u64 (wdN (rng N 0 p) 2 : Nat), .int .u64 (wdN (rng N 0 p) 3 : Nat)] 39)) := below_then hb5 hb6a hb5.size
      have hbs7 : base ≤ (w6.alloc (.cells #[.int .i64 ((rng N 0 p).length : Nat), .int .u64 (wdN (rng N 0 p) 0 : Nat), .int .u64 (wdN (rng N 0 p) 1 : Nat), .int .u64 (wdN (rng N 0 p) 2 : Nat), .int .u64 (wdN (rng N 0 p) 3 : Nat)] 39)).heap.size := Nat.le_trans hbs5 hb6a.size
      have hS7 : SetAt (w6.alloc (.cells #[.int .i64 ((rng N 0 p).length : Nat), .int .u64 (wdN (rng N 0 p) 0 : Nat), .int .u64 (wdN (rng N 0 p) 1 : Nat), .int .u64 (wdN (rng N 0 p) 2 : Nat), .int .u64 (wdN (rng N 0 p) 3 : Nat)] 39)) w6.heap.size (rng N 0 (p + 0)) := SetAt.new w6 (rng N 0 p)
      have hOff : Off w6.heap.size A1 (intVals (nums p q)) := Off.old (hr5.below hb6) (Nat.le_refl _)
      have hgh : g ≠ w6.heap.size := by have := hb6.size; have := hW5.lt; omega
      have hvh : ∀ k, v5.ownBlock = some k → k ≠ w6.heap.size := fun k hk => by have := (hown5'.lt k hk).2; have := hb6.size; omega
      have hwh : base ≤ w6.heap.size := Nat.le_trans hbs5 hb6.size
      clear hW5 hr5 hown5' hb5 hbs5 hb6 ha6 hb6a
      go_upto_region 11 with (fail)
      generalize w6.alloc (.cells #[.int .i64 ((rng N 0 p).length : Nat), .int .u64 (wdN (rng N 0 p) 0 : Nat), .int .u64 (wdN (rng N 0 p) 1 : Nat), .int .u64 (wdN (rng N 0 p) 2 : Nat), .int .u64 (wdN (rng N 0 p) 3 : Nat)] 39) = w7 at *
      generalize w6.heap.size = h at *
      go_loopw [9] (fun i wr => ∃ j : Nat, j ≤ q - p ∧ i = .int .i64 j ∧ SetAt wr h (rng N 0 (p + j)) ∧ w7.grownBy wr (some h)) (fun i _ => (q - p) - (intOf i).toNat)
      case atStart => exact ⟨0, by omega, rfl, hS7, ⟨rfl, rfl, rfl, Nat.le_refl _, fun _ _ _ => rfl⟩⟩
      case round =>
        clear hS7
        obtain ⟨j, hj, rfl, hSj, hgj⟩ := hrel
        by_cases hltj : (j : Int) < ((q - p : Nat) : Int)
        · obtain ⟨bb, oo, rfl, hcell⟩ := (hr7.only hgj hOff).at_ (k := j) (by simp only [intVals, List.length_map, hln]; omega)
          simp only [intVals, List.getElem_map] at hcell
          rw [nums_get p q j (by omega)] at hcell
          have hl256 : (rng N 0 (p + j)).length ≤ 256 := by rw [rng_length]; exact hN256
          have hput := rng_put N 0 (p + j) (by omega) (by have := Hpq.out; omega)
          obtain ⟨L0, hL0⟩ : ∃ L0, rng N 0 (p + j) = L0 := ⟨_, rfl⟩
          obtain ⟨L1, hL1⟩ : ∃ L1, rng N 0 (p + j + 1) = L1 := ⟨_, rfl⟩
          rw [hL0, hL1] at hput
          rw [hL0] at hl256 hSj
          have HL1 := Lib.hid hL1
          have Hput := Lib.hid hput
          clear hL0 hL1 hput
          obtain ⟨f0, f1, f2, f3, f4⟩ := hSj.cells
          generalize ((p + j : Nat) : Int) = x at *
          go_wp2_with fail
          go_region_with (go_at_call 16; (with_reducible refine (with_is L0 x L1 Hput.out _ hl256).mono ?_); rintro e wc ⟨rfl, hbc⟩; obtain ⟨d0, d1, d2, d3, d4⟩ := hSj.cells_drew hbc; obtain ⟨z0, z1, z2, z3, z4⟩ := hSj.free_drew hbc)
          all_goals
            have hbc' := below_of_drew hbc
            have hSc := SetAt.put (hSj.below' hbc') L1
            have hon := put_only wc h L1
            have hfin : SetAt (((((wc.setCell ⟨h, 0, none⟩ (.int .i64 (L1.length : Nat))).setCell ⟨h, 1, none⟩ (.int .u64 (wdN L1 0 : Nat))).setCell ⟨h, 2, none⟩ (.int .u64 (wdN L1 1 : Nat))).setCell ⟨h, 3, none⟩ (.int .u64 (wdN L1 2 : Nat))).setCell ⟨h, 4, none⟩ (.int .u64 (wdN L1 3 : Nat))) h (rng N 0 (p + (j + 1))) := by
              rw [← Nat.add_assoc, HL1.out]
              exact hSc
            have hgf := only_trans hgj (only_trans (only_below h hbc') hon)
            clear hSc hon hbc hbc' d0 d1 d2 d3 d4 z0 z1 z2 z3 z4 f0 f1 f2 f3 f4 hSj hgj hcell
            generalize ((((wc.setCell ⟨h, 0, none⟩ (.int .i64 (L1.length : Nat))).setCell ⟨h, 1, none⟩ (.int .u64 (wdN L1 0 : Nat))).setCell ⟨h, 2, none⟩ (.int .u64 (wdN L1 1 : Nat))).setCell ⟨h, 3, none⟩ (.int .u64 (wdN L1 2 : Nat))).setCell ⟨h, 4, none⟩ (.int .u64 (wdN L1 3 : Nat)) = wz at *
            go_wp2_with fail
            go_roundw
            case rel => exact ⟨j + 1, by omega, by go_num, hfin, hgf⟩
            case measure => simp [intOf]; omega
        · have hjq : p + j = q := by omega
          rw [hjq] at hSj
          have hW8 := hW7.of_block (hgj.block g hW7.lt (by simpa using hgh))
          have hown8 := hown7.kept hgj (by
            by_cases hv : v5.ownBlock = none
            · exact Or.inl hv
            · exact Or.inr fun e => hvh _ e rfl)
          have hb8 : Below w.heap.size w wr := hb7.trans (below_only hgj (by omega) hb7.size)
          have hbs8 : base ≤ wr.heap.size := Nat.le_trans hbs7 hgj.size
          clear hW7 hown7 hb7 hbs7 hgj hr7 hOff hvh
          obtain ⟨f0, f1, f2, f3, f4⟩ := hSj.cells
          go_wp2_with fail
          (with_reducible refine (ack_ok g (N : Nat) (rng N 0 p) (rng N p q) (rng N 0 q) T1 _ hW8 (by rw [rng_length]) (by rw [rng_length]; exact hN256) (by rw [rng_length]; exact hN256) (by rw [rng_length]; exact hN256)).mono ?_)
          rintro e w9 ⟨rfl, hW9, ho9⟩
          rw [offS_rng N p q Hpq.out.1] at hW9
          have hfin : AllRel w g N base v5 (r + 1) w9 := ⟨_, q, Hpq.out.2.2.2, hW9, own_only hown8 ho9 hg1, hb8.trans (below_only ho9 hg hb8.size), Nat.le_trans hbs8 ho9.size⟩
          clear f0 f1 f2 f3 f4 hSj hW8 hown8 hb8 hbs8 hW9 ho9
          go_wp2_with fail
          go_roundw
          case rel => exact ⟨r + 1, by omega, by go_num, hfin⟩
          case measure => simp [intOf]; omega
    · have hpN : p = N := by omega
      subst hpN
      clear hp
      obtain ⟨_, A2, c2, hv, hnc2, hcm2, hr2⟩ := Sl.own hown
      subst hv
      clear hown
      go_upto_region 17 with (fail)
      go_loop [10] (fun i => ∃ j : Nat, j ≤ p ∧ i = .int .i64 j) (fun i => p - (intOf i).toNat)
      case atStart => exact ⟨0, by omega, rfl⟩
      case round =>
        obtain ⟨j, hj, rfl⟩ := hrel
        by_cases hltj : (j : Int) < (p : Int)
        · obtain ⟨bb, oo, rfl, hcell⟩ := hr2.at_ (k := j) (by simp only [intVals, List.length_map, nums_length]; omega)
          simp only [intVals, List.getElem_map] at hcell
          rw [nums_get 0 p j (by omega), Nat.zero_add] at hcell
          go_wp2_with fail
          go_round
          case rel => exact ⟨j + 1, by omega, by go_num⟩
          case measure => simp [intOf]; omega
        · have hb' := hb
          go_wp2_with fail
          (with_reducible refine (acked_is g _ _ _ _ _ hW).mono ?_)
          rintro e w2 ⟨rfl, hb2⟩
          go_wp2_with fail
          (with_reducible refine (full_is (rng p 0 p) (by rw [rng_length, cntP_rng _ _ _ _ (by omega) (by omega)]; omega) _ (by rw [rng_length]; exact hN256)).mono ?_)
          rintro e w3 ⟨rfl, hb3⟩
          go_wp2_with fail
          refine (awake_any _).mono ?_
          rintro e w4 ⟨rfl, hb4⟩
          go_wp2_with fail
          go_ret
          exact ⟨rfl, below_then hb (bl (bl hb2 hb3) hb4) hb.size⟩
end Go.Proofs.Ytapanifgnpklpaa
