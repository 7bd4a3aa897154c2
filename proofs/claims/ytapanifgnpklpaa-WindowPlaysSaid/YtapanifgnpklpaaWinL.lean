/-
  The reference's window: the walks of New and Ack.
-/
import Derived.Test.YtapanifgnpklpaaWinK
import Derived.Test.YtapanifgnpklpaaWinH
namespace Go.Proofs.Ytapanifgnpklpaa
open Go.RowKit

theorem Try.info26 : (Try.prog.info? 26).map (fun i => (i.zero, i.size, i.bytes)) = some (some (.agg #[.int .i64 0, .int .i64 0]), 2, 16) := by kernel_rfl
theorem el_tim : El Try.prog 52 26 2 16 := El.mk_ (z := .agg #[.int .i64 0, .int .i64 0]) Try.underlying52 Try.info26 (by omega) rfl

/-- Nothing that was there has turned, but blocks p and q. -/
def TwoF (p q : Nat) (w w' : World) : Prop := w'.os = w.os ∧ w'.tape = w.tape ∧ w'.output = w.output ∧ w.heap.size ≤ w'.heap.size ∧ ∀ k, k < w.heap.size → k ≠ p → k ≠ q → w'.heap[k]? = w.heap[k]?
section
variable {p q : Nat} {w w1 w2 : World}
theorem TwoF.refl (p q : Nat) (w : World) : TwoF p q w w := ⟨rfl, rfl, rfl, Nat.le_refl _, fun _ _ _ _ => rfl⟩
theorem TwoF.trans (h : TwoF p q w w1) (h2 : TwoF p q w1 w2) : TwoF p q w w2 := ⟨h2.1.trans h.1, h2.2.1.trans h.2.1, h2.2.2.1.trans h.2.2.1, Nat.le_trans h.2.2.2.1 h2.2.2.2.1, fun k hk a b => (h2.2.2.2.2 k (Nat.lt_of_lt_of_le hk h.2.2.2.1) a b).trans (h.2.2.2.2 k hk a b)⟩
theorem TwoF.of_below (p q : Nat) (h : Below w.heap.size w w1) : TwoF p q w w1 := ⟨h.os, h.tape, h.output, h.size, fun k hk _ _ => h.block k hk⟩
theorem TwoF.of_base {base : Nat} (p q : Nat) (h : TwoF p q w w1) (h2 : Below base w1 w2) (hb : w.heap.size ≤ base) : TwoF p q w w2 := ⟨h2.os.trans h.1, h2.tape.trans h.2.1, h2.output.trans h.2.2.1, Nat.le_trans h.2.2.2.1 h2.size, fun k hk a b => (h2.block k (Nat.lt_of_lt_of_le hk hb)).trans (h.2.2.2.2 k hk a b)⟩
theorem TwoF.left (q : Nat) (h : w.grownBy w1 (some p)) : TwoF p q w w1 := ⟨h.os, h.tape, h.output, h.size, fun k hk a _ => h.block k hk (by simpa using a)⟩
theorem TwoF.right (p : Nat) (h : w.grownBy w1 (some q)) : TwoF p q w w1 := ⟨h.os, h.tape, h.output, h.size, fun k hk _ b => h.block k hk (by simpa using b)⟩
theorem TwoF.below {B : Nat} (h : TwoF p q w w1) (hp : B ≤ p) (hq : B ≤ q) (hB : B ≤ w.heap.size) : Below B w w1 := ⟨h.1, h.2.1, h.2.2.1, h.2.2.2.1, fun k hk => h.2.2.2.2 k (by omega) (by omega) (by omega)⟩
theorem Rd.two {A : Option Addr} {xs : List Value} (h : Rd w A xs) (hg : TwoF p q w w1) (ho : ∀ ad, A = some ad → ad.block ≠ p ∧ ad.block ≠ q) : Rd w1 A xs := fun hn => by
  obtain ⟨b, o, e, hc⟩ := h hn
  refine ⟨b, o, e, fun j u hj => ?_⟩
  have hcell := hc j u hj
  have hlt := World.block_lt_of_cell? w _ hcell
  exact (World.cell?_of_block (w := w) (hg.2.2.2.2 b hlt (ho _ e).1 (ho _ e).2)).trans hcell
end
/-- A row of elements of two cells that is not empty. -/
theorem own_block2 {w : World} {base n : Nat} {e : TypeId} {v : Value} {xs : List Value} (h : w.ownsRow base e 2 v n xs) (hn : 0 < n) : ∃ g cap cur, v = .slice (some ⟨g, 0, none⟩) n cap ∧ base ≤ g ∧ Bk w g e cur ∧ n ≤ cap ∧ cap ≤ maxLen ∧ cur.toList.take (n * 2) = xs := by
  rcases h.2 with ⟨_, h0⟩ | ⟨g, cap, cur, hv, hb, hg, h1, h2, _, ht⟩
  · omega
  · exact ⟨g, cap, cur, hv, hb, hg, h1, h2, by simpa using ht⟩
theorem row_of_take {w : World} {g n : Nat} {t : TypeId} {cur : Array Value} {v : Value} (hB : Bk w g t cur) (ht : cur.toList.take n = List.replicate n v) : RowN w g t n (fun _ => v) := by
  have hl := congrArg List.length ht
  rw [List.length_take, List.length_replicate] at hl
  refine ⟨cur, hB, by simp at hl; omega, fun i hi => ?_⟩
  have h := congrArg (fun l : List Value => l[i]?) ht
  simp only [List.getElem?_take, if_pos hi, Array.getElem?_toList, List.getElem?_replicate] at h
  exact h
theorem stF_new (N i : Nat) : stF (rng N 0 0) (rng N 0 0) i = .int .i64 0 := by
  unfold stF stV
  rw [rng_getD, decide_eq_false (by omega)]
  rfl

/-- Append of one element that was just laid in a block of its own; what is not the row's own block is as it was. -/
theorem wpList_append_new2 {P : Program} (w : World) {ops : Array Oper} {rest : List Oper} {o : Oper} {a : Act} {Q : Exit → Act → World → Prop} (hgd : o.guard = none) (s x : Operand) (t : TypeId)
    (ho : o.op = .call { callee := .builtin .append, args := #[s, x], argTypes := #[t, t] })
    (base : Nat) (e : TypeId) (size bytes : Nat) (hel : El P t e size bytes)
    (v : Value) (n : Nat) (xs : List Value) (hown : w.ownsRow base e size v n xs) (hs : a.eval s = v) (C : Array Value)
    (hx : a.eval x = .slice (some ⟨w.heap.size, 0, none⟩) 1 1) (hC : C.size = size) (h1 : ∀ u ∈ C.toList, u.oneCell' = true)
    (h63 : n + 1 ≤ maxLen) (hbytes : (n + 1) * bytes ≤ 140737488355328) (hbase : base ≤ w.heap.size)
    (h : ∀ v' w', w'.ownsRow base e size v' (n + 1) (xs ++ C.toList) → w.grownBy w' v.ownBlock → wpList P ops Q rest (a.put o.dst v') w') : wpList P ops Q (o :: rest) a (w.alloc (.cells C e)) := by
  obtain ⟨ht, hsz, i, z, hi, hz, hsize, hby, hzs⟩ := hel
  refine wpList_append_own (w.alloc (.cells C e)) hgd s x t ho base e i z size bytes ht hi hz hsize hby hzs hsz v n xs hs (hown.alloc _) ⟨w.heap.size, 0, none⟩ 1 1 C.toList hx (by simp [hC]) ?_ h1 h63 hbytes (by simp; omega) ?_
  · intro j u hj
    rw [add_mk, World.cell?_alloc_mark]
    simpa using hj
  · intro v' w' h2 h3 _
    have ha := (Below.refl w.heap.size w).alloc (Nat.le_refl _) (.cells C e)
    exact h v' w' h2 ⟨h3.os.trans ha.os, h3.tape.trans ha.tape, h3.output.trans ha.output, Nat.le_trans ha.size h3.size, fun k hk hne => (h3.block k (Nat.lt_of_lt_of_le hk ha.size) hne).trans (ha.block k hk)⟩

/-- What New leaves. -/
def RefNew (w : World) (N : Nat) (e : Ending) (w' : World) : Prop :=
  ∃ r rs rt vS vT, e = .returned (.pointer (some ⟨r, 0, none⟩)) ∧ w.heap.size ≤ r ∧ w.heap.size ≤ rs ∧ w.heap.size ≤ rt ∧ (0 < N → rs < w'.heap.size ∧ rt < w'.heap.size) ∧ RefAt w' r rs rt N vS vT (rng N 0 0) (rng N 0 0) tz ∧ Below w.heap.size w w'

set_option maxRecDepth 20000 in
set_option maxHeartbeats 2000000 in
theorem ref_new (n : Int) (N : Nat) (hN : clampB n = N) (w : World) : Calls Try.prog 19 #[.int .i64 n] w (RefNew w N) := by
  have hN256 : N ≤ 256 := by rw [← hN]; exact clampB_le n
  have hNn : N = min n.toNat 256 := by rw [← hN]; rfl
  have HNn := Lib.hid hNn
  clear hN hNn
  have hB0 : Bk (w.alloc (.cells #[.slice none 0 0, .slice none 0 0] 54)) w.heap.size 54 #[.slice none 0 0, .slice none 0 0] := Bk.new _ _ _
  have hb0 := (Below.refl w.heap.size w).alloc (Nat.le_refl _) (.cells #[.slice none 0 0, .slice none 0 0] 54)
  have hs0 : w.heap.size + 1 ≤ (w.alloc (.cells #[.slice none 0 0, .slice none 0 0] 54)).heap.size := by simp
  go_enter Try.func19, Try.ntmps19
  go_upto_region 3 with (fail)
  generalize w.alloc (.cells #[.slice none 0 0, .slice none 0 0] 54) = w0 at *
  go_loopw [4] (fun i wr => ∃ (k : Nat) (vS vT : Value), k ≤ N ∧ i = .int .i64 k ∧ Bk wr w.heap.size 54 #[vS, vT] ∧ wr.ownsRow (w.heap.size + 1) 3 1 vS k (List.replicate k (.int .i64 0)) ∧ wr.ownsRow (w.heap.size + 1) 26 2 vT k (List.replicate (k * 2) (.int .i64 0)) ∧ Below w.heap.size w wr ∧ w.heap.size + 1 ≤ wr.heap.size) (fun i _ => N - (intOf i).toNat)
  case atStart => exact ⟨0, _, _, by omega, rfl, hB0, World.ownsRow_nil _ _ _ _, World.ownsRow_nil _ _ _ _, hb0, hs0⟩
  case round =>
    clear hB0 hb0 hs0
    obtain ⟨k, vS, vT, hk, rfl, hB, hS, hT, hb, hsz⟩ := hrel
    have p0 : wr.cell? ⟨w.heap.size, 0, none⟩ = some vS := hB.cell 0
    have p1 : wr.cell? ⟨w.heap.size, 1, none⟩ = some vT := hB.cell 1
    by_cases hlt : k < N
    · have g1 : (k : Int) < n := by have := HNn.out; omega
      have g2 : (k : Int) < 256 := by omega
      have hST : vT.ownBlock = none ∨ vT.ownBlock ≠ vS.ownBlock := by
        by_cases hv : vT.ownBlock = none
        · exact Or.inl hv
        · refine Or.inr fun e => ?_
          rcases hT.2 with ⟨rfl, _⟩ | ⟨g, cap, cur, rfl, _, hg, _⟩
          · exact hv rfl
          · rcases hS.2 with ⟨rfl, _⟩ | ⟨g', cap', cur', rfl, _, hg', _⟩
            · simp [Value.ownBlock] at e
            · simp [Value.ownBlock] at e
              subst e
              rw [hg] at hg'
              simp at hg'
      have hrS : some w.heap.size ≠ vS.ownBlock := fun e => by have := (hS.lt _ e.symm).1; omega
      have hrT : some w.heap.size ≠ vT.ownBlock := fun e => by have := (hT.lt _ e.symm).1; omega
      go_upto_region 6 with (at_builtin; go_must (refine wpList_append_new2 wr rfl (.tmp 20) (.tmp 21) 22 rfl (w.heap.size + 1) 3 1 8 el_int _ _ _ hS rfl #[.int .i64 0] rfl rfl (by intro u hu; simp at hu; subst hu; rfl) (by unfold maxLen; omega) (by omega) hsz ?_); intro vS2 w2 hS2 ho2; obtain ⟨_, A2, c2, hv2, hnc2, hcm2, _⟩ := Sl.own hS2; subst hv2; have hB2 : Bk w2 w.heap.size 54 #[vS, vT] := (ho2.block _ hB.lt hrS).trans hB; have p0b : w2.cell? ⟨w.heap.size, 0, none⟩ = some vS := hB2.cell 0; have r0b := hB2.frozen 0)
      have hT2 := hT.kept ho2 hST
      have hB3 : Bk (w2.setCell ⟨w.heap.size, 0, none⟩ (.slice A2 (k + 1) c2)) w.heap.size 54 #[.slice A2 (k + 1) c2, vT] := hB2.set_ 0 _
      have hon := only_set w2 w.heap.size 0 (.slice A2 (k + 1) c2)
      have hS3 := hS2.kept hon (Or.inr (fun e => by have := (hS2.lt _ e).1; omega))
      have hT3 := hT2.kept hon (by
        by_cases hv : vT.ownBlock = none
        · exact Or.inl hv
        · exact Or.inr (fun e => hrT e.symm))
      have hb2 : Below w.heap.size w w2 := hb.grown ho2 (by omega) (fun j hj => by have := (hS.lt _ hj).1; omega)
      have hb3 := hb2.trans (below_only (B := w.heap.size) hon (Nat.le_refl _) hb2.size)
      have hsz3 : w.heap.size + 1 ≤ (w2.setCell ⟨w.heap.size, 0, none⟩ (.slice A2 (k + 1) c2)).heap.size := Nat.le_trans hsz (Nat.le_trans ho2.size hon.size)
      clear hB hS hT hB2 p0 p1 p0b r0b hon hT2 hS2 hb2 ho2 hb hrS hST
      generalize w2.setCell ⟨w.heap.size, 0, none⟩ (.slice A2 (k + 1) c2) = w3 at *
      have p1 : w3.cell? ⟨w.heap.size, 1, none⟩ = some vT := hB3.cell 1
      have hTS : vT.ownBlock = none ∨ (Value.slice A2 (k + 1) c2).ownBlock ≠ vT.ownBlock := by
        by_cases hv : vT.ownBlock = none
        · exact Or.inl hv
        · refine Or.inr fun e => ?_
          rcases hT3.2 with ⟨rfl, _⟩ | ⟨g, cap, cur, rfl, _, hg, _⟩
          · exact hv rfl
          · rcases hS3.2 with ⟨hv3, _⟩ | ⟨g', cap', cur', hv3, _, hg', _⟩
            · rw [hv3] at e; simp [Value.ownBlock] at e
            · rw [hv3] at e; simp [Value.ownBlock] at e
              subst e
              rw [hg] at hg'
              simp at hg'
      go_wp2_with (at_builtin; go_must (refine wpList_append_new2 w3 rfl (.tmp 29) (.tmp 31) 52 rfl (w.heap.size + 1) 26 2 16 el_tim _ _ _ hT3 rfl #[.int .i64 0, .int .i64 0] rfl rfl (by intro u hu; simp at hu; rcases hu with rfl | rfl <;> rfl) (by unfold maxLen; omega) (by omega) hsz3 ?_); intro vT2 w4 hT4 ho4; obtain ⟨_, A4, c4, hv4, hnc4, hcm4, _⟩ := Sl.own hT4; subst hv4; have hB4 : Bk w4 w.heap.size 54 #[.slice A2 (k + 1) c2, vT] := (ho4.block _ hB3.lt hrT).trans hB3; have p1b : w4.cell? ⟨w.heap.size, 1, none⟩ = some vT := hB4.cell 1; have r1b := hB4.frozen 1)
      have hS4 := hS3.kept ho4 (by
        rcases hTS with h | h
        · rw [h]
          by_cases hv : (Value.slice A2 (k + 1) c2).ownBlock = none
          · exact Or.inl hv
          · exact Or.inr hv
        · exact Or.inr h)
      have hB5 : Bk (w4.setCell ⟨w.heap.size, 1, none⟩ (.slice A4 (k + 1) c4)) w.heap.size 54 #[.slice A2 (k + 1) c2, .slice A4 (k + 1) c4] := hB4.set_ 1 _
      have hon5 := only_set w4 w.heap.size 1 (.slice A4 (k + 1) c4)
      have hS5 := hS4.kept hon5 (Or.inr (fun e => by have := (hS4.lt _ e).1; omega))
      have hT5 := hT4.kept hon5 (Or.inr (fun e => by have := (hT4.lt _ e).1; omega))
      have hb4 : Below w.heap.size w w4 := hb3.grown ho4 (by omega) (fun j hj => by have := (hT3.lt _ hj).1; omega)
      have hb5 := hb4.trans (below_only (B := w.heap.size) hon5 (Nat.le_refl _) hb4.size)
      have hsz5 : w.heap.size + 1 ≤ (w4.setCell ⟨w.heap.size, 1, none⟩ (.slice A4 (k + 1) c4)).heap.size := Nat.le_trans hsz3 (Nat.le_trans ho4.size hon5.size)
      have e1 : List.replicate k (Value.int .i64 0) ++ #[Value.int .i64 0].toList = List.replicate (k + 1) (Value.int .i64 0) := by rw [List.replicate_succ']
      have e2 : List.replicate (k * 2) (Value.int .i64 0) ++ #[Value.int .i64 0, Value.int .i64 0].toList = List.replicate ((k + 1) * 2) (Value.int .i64 0) := by
        rw [show (k + 1) * 2 = k * 2 + 1 + 1 from by omega, List.replicate_succ', List.replicate_succ', List.append_assoc]
        rfl
      rw [e1] at hS5
      rw [e2] at hT5
      have HS5 := Lib.hid hS5
      have HT5 := Lib.hid hT5
      have HB5 := Lib.hid hB5
      have Hb5 := Lib.hid hb5
      have Hs5 := Lib.hid hsz5
      refine ⟨⟨k + 1, _, _, by omega, by go_num, HB5.out, HS5.out, HT5.out, Hb5.out, Hs5.out⟩, ?_⟩
      simp [intOf]; omega
    · have hkN : k = N := by omega
      subst hkN
      clear hlt
      have hfin : ∃ rs rt, w.heap.size ≤ rs ∧ w.heap.size ≤ rt ∧ (0 < k → rs < wr.heap.size ∧ rt < wr.heap.size) ∧ RefAt wr w.heap.size rs rt k vS vT (rng k 0 0) (rng k 0 0) tz := by
        rcases Nat.eq_zero_or_pos k with h0 | h0
        · subst h0
          obtain ⟨_, A1, c1, hv1, hn1, hm1, _⟩ := Sl.own hS
          obtain ⟨_, A2, c2, hv2, hn2, hm2, _⟩ := Sl.own hT
          exact ⟨w.heap.size + 1, w.heap.size + 2, by omega, by omega, by omega, hB, by omega, by omega, by omega, ⟨A1, c1, hv1, hn1, hm1, fun h => absurd h (by omega)⟩, ⟨A2, c2, hv2, hn2, hm2, fun h => absurd h (by omega)⟩, fun h => absurd h (by omega), tz, fun h => absurd h (by omega), fun i hi => absurd hi (by omega)⟩
        · obtain ⟨rs, cs, cur, hv1, hb1, hB1, hn1, hm1, ht1⟩ := own_block hS h0
          obtain ⟨rt, ct, cur2, hv2, hb2, hB2, hn2, hm2, ht2⟩ := own_block2 hT h0
          have hne : rs ≠ rt := by
            intro e
            subst e
            unfold Bk at hB1 hB2
            rw [hB1] at hB2
            simp at hB2
          refine ⟨rs, rt, by omega, by omega, fun _ => ⟨hB1.lt, hB2.lt⟩, hB, by omega, by omega, hne, ⟨_, cs, hv1, hn1, hm1, fun _ => rfl⟩, ⟨_, ct, hv2, hn2, hm2, fun _ => rfl⟩, fun _ => ?_, tz, fun _ => ?_, fun i hi hs => ?_⟩
          · exact (row_of_take hB1 ht1).congr (fun i _ => (stF_new k i).symm)
          · refine (row_of_take hB2 ht2).congr (fun i _ => ?_)
            unfold timF tz
            split <;> rfl
          · rw [rng_getD, decide_eq_false (by omega)] at hs
            cases hs
      have Hfin := Lib.hid hfin
      have Hb := Lib.hid hb
      clear hB hS hT hfin p0 p1 hb
      by_cases g1 : (k : Int) < n
      · have g2 : ¬ (k : Int) < 256 := by have := HNn.out; omega
        go_wp2_with fail
        go_ret
        obtain ⟨rs, rt, a1, a2, a3, a4⟩ := Hfin.out
        exact ⟨w.heap.size, rs, rt, vS, vT, rfl, by omega, a1, a2, a3, a4, Hb.out⟩
      · go_wp2_with fail
        go_ret
        obtain ⟨rs, rt, a1, a2, a3, a4⟩ := Hfin.out
        exact ⟨w.heap.size, rs, rt, vS, vT, rfl, by omega, a1, a2, a3, a4, Hb.out⟩
end Go.Proofs.Ytapanifgnpklpaa
