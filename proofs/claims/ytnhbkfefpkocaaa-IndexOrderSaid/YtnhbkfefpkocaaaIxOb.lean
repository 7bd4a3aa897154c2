/-
  The walk of IndexOrder.
-/
import Derived.Test.YtnhbkfefpkocaaaP13
import Derived.Test.YtnhbkfefpkocaaaIxPb
import Derived.Test.YtnhbkfefpkocaaaP16
import Derived.Lib.QuietBelow
namespace Go.Proofs.Ytnhbkfefpkocaaa
open Go.RowKit Go.Sort

theorem bitsand15 (n : Int) : bits .and .i64 n 15 = n % 16 := by
  show IntKind.i64.wrap ((BitVec.ofInt 64 n &&& BitVec.ofInt 64 15).toNat : Int) = _
  rw [BitVec.toNat_and, show (BitVec.ofInt 64 15).toNat = 2 ^ 4 - 1 from rfl, Nat.and_two_pow_sub_one_eq_mod, BitVec.toNat_ofInt, IntKind.wrap_i64]
  simp only [Nat.reducePow]
  omega
/-- The parts, the first ones numbered. -/
def nP (P : List Pt) (i : Nat) : List Pt := P.zipIdx.map fun x => if x.2 < i then ⟨((1 + x.2 : Nat) : Int), x.1.fa, x.1.fn, x.1.fc, x.1.fs⟩ else x.1
theorem nP_len (P : List Pt) (i : Nat) : (nP P i).length = P.length := by simp [nP]
theorem nP_get (P : List Pt) (i j : Nat) : (nP P i)[j]? = P[j]?.map fun x => if j < i then ⟨((1 + j : Nat) : Int), x.fa, x.fn, x.fc, x.fs⟩ else x := by
  unfold nP
  rw [List.getElem?_map, List.getElem?_zipIdx]
  cases P[j]? <;> simp
theorem nP_zero (P : List Pt) : nP P 0 = P := List.ext_getElem? fun j => by rw [nP_get]; cases P[j]? <;> simp
theorem nP_set (P : List Pt) (i : Nat) (x : Pt) (h : P[i]? = some x) : nP P (i + 1) = (nP P i).set i ⟨((1 + i : Nat) : Int), x.fa, x.fn, x.fc, x.fs⟩ := List.ext_getElem? fun j => by
  rw [nP_get, List.getElem?_set, nP_get, nP_len]
  by_cases hij : i = j
  · subst hij
    have hi := (List.getElem?_eq_some_iff.1 h).1
    rw [if_pos rfl, if_pos hi, h]
    simp
  · rw [if_neg hij]
    cases P[j]? with
    | none => rfl
    | some y =>
      simp only [Option.map_some]
      by_cases h1 : j < i
      · rw [if_pos h1, if_pos (by omega)]
      · rw [if_neg h1, if_neg (by omega)]
theorem pf_set_id : ∀ (l : List Pt) (i : Nat) (x : Pt) (v : Int), l[i]? = some x → pf (l.set i ⟨v, x.fa, x.fn, x.fc, x.fs⟩) = (pf l).set (i * 2) (.int .i64 v)
  | [], _, _, _, h => by simp at h
  | y :: l, 0, x, v, h => by
    simp only [List.getElem?_cons_zero, Option.some.injEq] at h
    subst h
    rfl
  | y :: l, i + 1, x, v, h => by
    rw [show (i + 1) * 2 = i * 2 + 1 + 1 by omega]
    simp only [List.set_cons_succ, pf]
    rw [pf_set_id l i x v (by simpa using h)]
theorem own_id {w : World} {base n g cap : Nat} {L : List Pt} (h : w.ownsRow base 37 2 (.slice (some ⟨g, 0, none⟩) n cap) n (pf L)) (i : Nat) (x : Pt) (hx : L[i]? = some x) (v : Int) :
    (w.setCell ⟨g, i * 2, none⟩ (.int .i64 v)).ownsRow base 37 2 (.slice (some ⟨g, 0, none⟩) n cap) n (pf (L.set i ⟨v, x.fa, x.fn, x.fc, x.fs⟩)) := by
  have hl := h.1
  refine ⟨by rw [pf_len, List.length_set, ← pf_len]; exact hl, ?_⟩
  rcases h.2 with ⟨h0, _⟩ | ⟨g', cap', cur, hv, hbg, hg, hnc, hcm, hcs, htk⟩
  · cases h0
  · cases hv
    have hB : Bk w g 37 cur := hg
    refine .inr ⟨g, cap, _, rfl, hbg, hB.set_ (i * 2) (.int .i64 v), hnc, hcm, by simpa using hcs, ?_⟩
    rw [pf_set_id L i x v hx, ← htk]
    simp only [Array.toList_setIfInBounds]
    rw [List.take_set]
/-- The law's world: the parts' row, both indices, their boxes. -/
def OrW (w : World) (z : Nat) (R : List Pt) (v0 : Value) (L : List It) (A : Option Addr) (n c : Nat) (M : List It) (B : Option Addr) (m d : Nat) (wr : World) : Prop :=
  wr.ownsRow w.heap.size 37 2 v0 R.length (pf R) ∧ (∀ g, v0.ownBlock = some g → g < z) ∧ w.heap.size ≤ z ∧ Rd wr A (itf L) ∧ (∀ ad, A = some ad → z + 2 ≤ ad.block) ∧ Rd wr B (itf M) ∧ (∀ ad, B = some ad → z + 2 ≤ ad.block) ∧
  Bk wr z 25 #[.slice A n c] ∧ Bk wr (z + 1) 25 #[.slice B m d] ∧ Below w.heap.size w wr
section
variable {w : World} {z : Nat} {R : List Pt} {v0 : Value} {L : List It} {A : Option Addr} {n c : Nat} {M : List It} {B : Option Addr} {m d : Nat} {wr : World}
theorem OrW.below (h : OrW w z R v0 L A n c M B m d wr) {w' : World} (hb : Below wr.heap.size wr w') : OrW w z R v0 L A n c M B m d w' :=
  ⟨own_belowI h.1 hb, h.2.1, h.2.2.1, h.2.2.2.1.below hb, h.2.2.2.2.1, h.2.2.2.2.2.1.below hb, h.2.2.2.2.2.2.1, h.2.2.2.2.2.2.2.1.below' hb, h.2.2.2.2.2.2.2.2.1.below' hb, bl h.2.2.2.2.2.2.2.2.2 hb⟩
theorem OrW.size (h : OrW w z R v0 L A n c M B m d wr) : z + 2 ≤ wr.heap.size := h.2.2.2.2.2.2.2.2.1.lt
theorem OrW.num (h : OrW w z R v0 L A n c M B m d wr) {g k cap : Nat} (hv : v0 = .slice (some ⟨g, 0, none⟩) k cap) {i : Nat} {x : Pt} (hx : R[i]? = some x) (v : Int) : OrW w z (R.set i ⟨v, x.fa, x.fn, x.fc, x.fs⟩) v0 L A n c M B m d (wr.setCell ⟨g, i * 2, none⟩ (.int .i64 v)) := by
  obtain ⟨h1, h2, h3, h4, h5, h6, h7, h8, h9, h10⟩ := h
  subst hv
  have hg := h2 g rfl
  have hbg : w.heap.size ≤ g := (h1.lt g rfl).1
  have ho := only_set wr g (i * 2) (.int .i64 v)
  have hk : k = R.length := by
    rcases h1.2 with ⟨h0, _⟩ | ⟨g', cap', cur, hv, _⟩
    · cases h0
    · cases hv; rfl
  subst hk
  refine ⟨by rw [List.length_set]; exact own_id h1 i x hx v, h2, h3, h4.only ho (Off.fresh h5 (by omega)), h5, h6.only ho (Off.fresh h7 (by omega)), h7, h8.only ho (by omega), h9.only ho (by omega), h10.setCell (p := ⟨g, i * 2, none⟩) hbg _⟩
theorem OrW.putA (h : OrW w z R v0 L A n c M B m d wr) {L2 : List It} {A2 : Option Addr} (n2 c2 : Nat) (ha : Rd wr A2 (itf L2)) (fa : ∀ ad, A2 = some ad → z + 2 ≤ ad.block) : OrW w z R v0 L2 A2 n2 c2 M B m d (wr.setCell ⟨z, 0, none⟩ (.slice A2 n2 c2)) := by
  obtain ⟨h1, h2, h3, h4, h5, h6, h7, h8, h9, h10⟩ := h
  have ho := only_set wr z 0 (.slice A2 n2 c2)
  have hown : (wr.setCell ⟨z, 0, none⟩ (.slice A2 n2 c2)).ownsRow w.heap.size 37 2 v0 R.length (pf R) := h1.kept ho (Or.inr fun hz => absurd (h2 z hz) (by omega))
  exact ⟨hown, h2, h3, ha.only ho (Off.fresh fa (by omega)), fa, h6.only ho (Off.fresh h7 (by omega)), h7, h8.set_ 0 _, h9.only ho (by omega), h10.setCell (p := ⟨z, 0, none⟩) h3 _⟩
theorem OrW.putB (h : OrW w z R v0 L A n c M B m d wr) {L2 : List It} {A2 : Option Addr} (n2 c2 : Nat) (ha : Rd wr A2 (itf L2)) (fa : ∀ ad, A2 = some ad → z + 2 ≤ ad.block) : OrW w z R v0 L A n c L2 A2 n2 c2 (wr.setCell ⟨z + 1, 0, none⟩ (.slice A2 n2 c2)) := by
  obtain ⟨h1, h2, h3, h4, h5, h6, h7, h8, h9, h10⟩ := h
  have ho := only_set wr (z + 1) 0 (.slice A2 n2 c2)
  have hown : (wr.setCell ⟨z + 1, 0, none⟩ (.slice A2 n2 c2)).ownsRow w.heap.size 37 2 v0 R.length (pf R) := h1.kept ho (Or.inr fun hz => absurd (h2 (z + 1) hz) (by omega))
  exact ⟨hown, h2, h3, h4.only ho (Off.fresh h5 (by omega)), h5, ha.only ho (Off.fresh fa (by omega)), fa, h8.only ho (by omega), h9.set_ 0 _, h10.setCell (p := ⟨z + 1, 0, none⟩) (show w.heap.size ≤ z + 1 by omega) _⟩
end

set_option maxRecDepth 20000 in
set_option maxHeartbeats 8000000 in
theorem indexOrder_walk (A0 : Option Addr) (n0 c0 : Nat) (P0 : List Pt) (turn : Int) (w : World) (hn : P0.length = n0) (hnb : n0 ≤ 9223372036854775807) (hr : Rd w A0 (pf P0)) (hok : ∀ x ∈ P0, PtOk w x) (_h1 : -9223372036854775808 ≤ turn) (_h2 : turn ≤ 9223372036854775807) :
    Calls Try.prog 4 #[.slice A0 n0 c0, .int .i64 turn] w fun e w' => e = .returned (.bool true) ∧ Below w.heap.size w w' := by
  have mixed : Try.prog.follows Departure.mixedOrders = true := by kernel_rfl
  have HFE := Lib.hid (few_any P0 A0 n0 c0 hn hnb w w (Below.refl _ _) hr hok)
  clear hn hr hok
  go_enter Try.func4, Try.ntmps4
  go_wp2_with fail
  refine HFE.out.mono ?_
  rintro e w3 ⟨P, v0, rfl, ho0, hP12, hPok, hb3⟩
  clear HFE
  obtain ⟨z, hz⟩ : ∃ z, w3.heap.size = z := ⟨_, rfl⟩
  obtain ⟨w4, hw4⟩ : ∃ w4, (w3.alloc (.cells #[.slice none 0 0] 25)).alloc (.cells #[.slice none 0 0] 25) = w4 := ⟨_, rfl⟩
  have hb4 : Below w3.heap.size w3 w4 := by rw [← hw4]; exact ((Below.refl _ w3).alloc (Nat.le_refl _) _).alloc (by simp only [World.size_alloc]; omega) _
  have hk4 : Bk w4 z 25 #[.slice none 0 0] := by rw [← hw4, ← hz]; exact (Bk.new w3 _ _).alloc _
  have hk5 : Bk w4 (z + 1) 25 #[.slice none 0 0] := by
    rw [← hw4, ← hz]
    have := Bk.new (w3.alloc (.cells #[.slice none 0 0] 25)) 25 #[.slice none 0 0]
    rwa [World.size_alloc] at this
  obtain ⟨m, hm⟩ : ∃ m, P.length = m := ⟨_, rfl⟩
  have HW4 := Lib.hid (show OrW w z (nP P 0) v0 [] none 0 0 [] none 0 0 w4 from ⟨by rw [nP_zero]; exact own_belowI ho0 hb4, (fun g hg => by have := (ho0.lt g hg).2; omega), by have := hb3.size; omega, Rd.nil _ _, (fun ad h => by cases h), Rd.nil _ _, (fun ad h => by cases h), hk4, hk5, bl hb3 hb4⟩)
  have hP : ∀ x ∈ P, x.fs.length = x.fn ∧ x.fn ≤ x.fc ∧ x.fc ≤ maxLen ∧ Rd w x.fa (fl x.fs) ∧ x.fs.length ≤ 40 ∧ ∀ f ∈ x.fs, f.1.size ≤ 20000 ∧ f.2.size ≤ 20000 := fun x hx => ⟨(hPok x hx).1.1, (hPok x hx).1.2.1, (hPok x hx).1.2.2.1, (hPok x hx).1.2.2.2, (hPok x hx).2.1, (hPok x hx).2.2⟩
  have HP := Lib.hid (And.intro hm hP)
  have HWE := Lib.hid (And.intro hw4 hz)
  have hvs : ∃ PA pc, v0 = .slice PA m pc := by
    obtain ⟨_, PA, pc, h, _⟩ := Sl.own ho0
    exact ⟨PA, pc, by rw [h, hm]⟩
  obtain ⟨PA, pc, rfl⟩ := hvs
  rw [hm] at hP12
  clear ho0 hPok hb3 hb4 hk4 hk5 hw4 hm hP
  go_upto_region 3 with (fail)
  rw [HWE.out.1]
  have hz4 := HW4.out.size
  clear HWE hz
  go_wp2_with fail
  go_loopw [7] (fun vi wr => ∃ (i : Nat) (L : List It) (A : Option Addr) (n c : Nat), vi = .int .i64 (i : Nat) ∧ i ≤ m ∧ n ≤ 40 * i ∧ n ≤ c ∧ c ≤ maxLen ∧ Hid (L.length = n ∧ L = allI [] ((numQ P).take i) ∧ GoodL L (40 * i) ∧ ∀ x ∈ (numQ P).take i, ∀ f ∈ x.2, okP f.1 = 0) ∧ Hid (OrW w z (nP P i) (.slice PA m pc) L A n c [] none 0 0 wr)) (fun vi _ => m - iOfI vi)
  case atStart => exact ⟨0, [], none, 0, 0, rfl, by omega, by omega, by omega, by unfold maxLen; omega, Lib.hid ⟨rfl, rfl, ⟨List.Pairwise.nil, (fun y hy => by simp at hy), by simp⟩, (fun x hx => by simp at hx)⟩, HW4⟩
  case round =>
    clear HW4
    obtain ⟨i, L, A, n, c, rfl, hi, hn40, hnc, hcm, HL, HW⟩ := hrel
    by_cases him : i < m
    · have him1 : (i : Int) < (m : Int) := by omega
      obtain ⟨x, hx⟩ : ∃ x, P[i]? = some x := ⟨_, List.getElem?_eq_getElem (by rw [HP.out.1]; exact him)⟩
      have hxk := HP.out.2 x (List.mem_of_getElem? hx)
      obtain ⟨id0, FA, fn, fc, fs⟩ := x
      obtain ⟨hfn, hfnc, hfcm, hfr, hf40, hfsz⟩ := hxk
      simp only at hfn hfnc hfcm hfr hf40 hfsz
      have hgx : (nP P i)[i]? = some ⟨id0, FA, fn, fc, fs⟩ := by rw [nP_get, hx]; simp
      obtain ⟨g, cap, cur, hv, hg⟩ : ∃ g cap cur, Value.slice PA m pc = .slice (some ⟨g, 0, none⟩) m cap ∧ Bk wr g 37 cur := by
        rcases HW.out.1.2 with ⟨_, h0⟩ | ⟨g, cap, cur, hv, _, hg, _⟩
        · rw [nP_len, HP.out.1] at h0; omega
        · rw [nP_len, HP.out.1] at hv; exact ⟨g, cap, cur, hv, hg⟩
      cases hv
      obtain ⟨_, A8, c8, h8, _, _, hrow⟩ := Sl.own HW.out.1
      obtain rfl : A8 = some ⟨g, 0, none⟩ := by
        injection h8 with h81
        exact h81.symm
      clear h8
      obtain ⟨b, o, hbo, _, q0, q1⟩ := hrow.part hgx
      cases hbo
      simp only [Nat.zero_add] at q0 q1
      have f0 := hg.frozen (i * 2)
      obtain ⟨w5, hw5⟩ : ∃ w5, wr.setCell ⟨g, i * 2, none⟩ (.int .i64 (1 + (i : Int))) = w5 := ⟨_, rfl⟩
      have hW5 : OrW w z (nP P (i + 1)) (.slice (some ⟨g, 0, none⟩) m pc) L A n c [] none 0 0 w5 := by
        rw [nP_set P i _ hx, ← hw5]
        exact HW.out.num rfl hgx _
      have hg5 : g < z := hW5.2.1 g rfl
      have c5 := hW5.2.2.2.2.2.2.2.1.cell_ 0 (.slice A n c) rfl
      have q5 : w5.cell? ⟨g, i * 2 + 1, none⟩ = some (.slice FA fn fc) := by rw [← hw5, World.cell?_setCell_other _ _ _ _ (by simp)]; exact q1
      obtain ⟨L2, e, h2⟩ : ∃ L2 e, withI L (1 + (i : Int)) fs = (L2, e) := ⟨_, _, rfl⟩
      have hgood := withI_good (1 + (i : Int)) fs L (40 * i) HL.out.2.2.1 hfsz (by omega)
      rw [h2] at hgood
      simp only at hgood
      have hfz : ∀ f ∈ fs, f.1.size ≤ 100000000 ∧ f.2.size ≤ 1000000000 := fun f hf => by have := hfsz f hf; omega
      have HCL := Lib.hid (fun (w' : World) (hw : Below w5.heap.size w5 w') => with_is L A n c HL.out.1 (by omega) HL.out.2.2.1.1 (1 + (i : Int)) fs FA fn fc hfn (by omega) hfz L2 e h2 w' (hW5.2.2.2.1.below hw) (hfr.below (bl hW5.2.2.2.2.2.2.2.2.2 hw)))
      have HS0 : Hid (∀ w', Below w5.heap.size w5 w' → Below w5.heap.size w5 w' ∧ w'.cell? ⟨g, i * 2 + 1, none⟩ = some (.slice FA fn fc) ∧ w'.cell? ⟨z, 0, none⟩ = some (.slice A n c)) := Lib.hid fun w' h => ⟨h, (h.cell (World.block_lt_of_cell? w5 _ q5)).trans q5, (h.cell (World.block_lt_of_cell? w5 _ c5)).trans c5⟩
      have hw1 : IntKind.i64.wrap (1 + (i : Int)) = 1 + (i : Int) := by rw [IntKind.wrap_i64]; omega
      have HI := Lib.hid (And.intro h2 (And.intro hgood (And.intro hfn hx)))
      have HW5 := Lib.hid hW5
      clear hx hgx hfn hfnc hfcm hfr hf40 hfsz hrow h2 hgood hfz hg hW5
      go_upto_region 7 with (fail)
      clear q0 q1 f0 hw5
      go_cut [8, 9] from 16 to 43 (fun v ve wx => OfBox w5 L2 e v ve wx)
      case first =>
        go_region_held3 (fun w' => Below w5.heap.size w5 w' ∧ w'.cell? ⟨g, i * 2 + 1, none⟩ = some (.slice FA fn fc) ∧ w'.cell? ⟨z, 0, none⟩ = some (.slice A n c))
          (first | with_reducible exact HS0.out _ (ka w5) | with_reducible exact HS0.out _ (kb w5 _) | with_reducible exact HS0.out _ hX | with_reducible exact HS0.out _ (kd hX _) | with_reducible exact HS0.out _ (k1 hX _ (Nat.le_refl _) _))
          (first
            | (go_at_call 16; (with_reducible refine (HCL.out _ (ka w5)).mono ?_); rintro e w6 ⟨v6, rfl, ⟨A6, c6, rfl, hn6, hm6, hr6, hf6⟩, hb6⟩; have hX := below_of_drew hb6)
            | (go_at_call 16; (with_reducible refine (HCL.out _ (kb w5 _)).mono ?_); rintro e w6 ⟨v6, rfl, ⟨A6, c6, rfl, hn6, hm6, hr6, hf6⟩, hb6⟩; have hX := bl_one hb6; have hz := (Bk.one w5 _ _).below' hb6; have z0 := hz.cell_ 0 (.slice none 0 0) rfl; have y0 := hz.frozen 0))
        all_goals
          go_wp2_with fail
          go_meet
          first
            | exact ⟨_, A6, c6, rfl, rfl, hX.size, Bk.new w6 _ _, hr6.below ((Below.refl _ w6).alloc (Nat.le_refl _) _), hf6, hn6, hm6, kd hX _⟩
            | exact ⟨_, A6, c6, rfl, rfl, Nat.le_refl _, hz.set_ 0 _, hr6.only (only_set w6 w5.heap.size 0 _) (Off.fresh (B := w5.heap.size + 1) (fun ad hA => by have := hf6 ad hA; simpa using this) (by omega)), (fun ad hA => by have := hf6 ad hA; simp at this; omega), hn6, hm6, k1 hX _ (Nat.le_refl _) _⟩
      case rest =>
        obtain ⟨h, A2, c2, rfl, rfl, hh, hbk, hr2, hf2, hn2, hm2, hbx⟩ := hcut
        have hz5 := HW5.out.size
        have hWC := HW5.out.below hbx
        obtain ⟨n2, hn2e⟩ : ∃ n2, L2.length = n2 := ⟨_, rfl⟩
        rw [hn2e] at hbk hn2
        have x0 := hbk.cell_ 0 (.slice A2 n2 c2) rfl
        have z0 := hWC.2.2.2.2.2.2.2.1.cell_ 0 (.slice A n c) rfl
        have y0 := hWC.2.2.2.2.2.2.2.1.frozen 0
        have HC := Lib.hid (And.intro hWC (And.intro hr2 (And.intro hf2 hn2e)))
        clear hbk hr2 hf2 hbx hWC hh hn2e c5 q5 hw1 HS0 HCL
        by_cases he0 : e = 0
        · have hne : (e == 0) = true := by simp [he0]
          subst he0
          have hg2 : GoodL L2 (40 * (i + 1)) := by
            rcases HI.out.2.1 with ⟨_, h⟩ | ⟨h, _⟩
            · exact ⟨h.1, h.2.1, by have := h.2.2; have h40 := (HP.out.2 _ (List.mem_of_getElem? HI.out.2.2.2)).2.2.2.2.1; simp only at h40; omega⟩
            · exact absurd rfl h
          have hlaw := HI.out.1
          unfold withI at hlaw
          rw [if_neg (by omega)] at hlaw
          have hok := withL_ok (1 + (i : Int)) fs L (by rw [hlaw])
          rw [hlaw] at hok
          have hq : (numQ P).take (i + 1) = (numQ P).take i ++ [(1 + (i : Int), fs)] := by
            rw [List.take_add_one, numQ_get, HI.out.2.2.2]
            rfl
          have hL2 : L2 = allI [] ((numQ P).take (i + 1)) := by
            rw [hq, allI_snoc, ← HL.out.2.1]
            exact hok.2
          have hok2 : ∀ x ∈ (numQ P).take (i + 1), ∀ f ∈ x.2, okP f.1 = 0 := fun x hx => by
            rw [hq] at hx
            rcases List.mem_append.1 hx with hx | hx
            · exact HL.out.2.2.2 x hx
            · rw [List.mem_singleton.1 hx]; exact hok.1
          have hn240 : n2 ≤ 40 * (i + 1) := by have := hg2.2.2; have := HC.out.2.2.2; omega
          have HNX := Lib.hid (And.intro (HC.out.1.putA (L2 := L2) n2 c2 HC.out.2.1 (fun ad hA => by have := HC.out.2.2.1 ad hA; omega)) (And.intro HC.out.2.2.2 (And.intro hL2 (And.intro hg2 hok2))))
          clear hlaw hok hq hL2 hok2 hg2
          go_wp2_with fail
          go_round
          case rel => exact ⟨i + 1, L2, A2, n2, c2, by first | rfl | go_num, by omega, hn240, hn2, hm2, Lib.hid HNX.out.2, Lib.hid HNX.out.1⟩
          case measure => simp [iOfI]; omega
        · have hne : (e == 0) = false := by simp [he0]
          have hne2 : (e != 0) = true := by simp [he0]
          have HB := Lib.hid HC.out.1.2.2.2.2.2.2.2.2.2
          clear x0 z0 y0
          go_wp2_with fail
          refine (awakeI_any wc).mono ?_
          rintro e2 w11 ⟨rfl, hb11⟩
          have H11 := Lib.hid (bl HB.out hb11)
          clear hb11
          go_wp2_with fail
          go_ret
          exact ⟨rfl, H11.out⟩
    · obtain rfl : i = m := by omega
      have him1 : ¬ ((i : Int) < (i : Int)) := by omega
      obtain ⟨t, ht⟩ : ∃ t : Nat, turn % 16 = (t : Int) := ⟨(turn % 16).toNat, by omega⟩
      have ht16 : t < 16 := by omega
      have hand : bits .and .i64 turn 15 = (t : Int) := by rw [bitsand15, ht]
      have hQl : (numQ P).length = i := by rw [numQ_len, HP.out.1]
      have hL : L = allI [] (numQ P) ∧ ∀ x ∈ numQ P, ∀ f ∈ x.2, okP f.1 = 0 := by
        have h1 := HL.out.2.1
        have h2 := HL.out.2.2.2
        rw [List.take_of_length_le (by rw [hQl]; exact Nat.le_refl _)] at h1 h2
        exact ⟨h1, h2⟩
      have HT := Lib.hid (And.intro hL (And.intro hQl (And.intro HL.out.1 HL.out.2.2.1)))
      have HW2 := HW
      clear ht hL hQl HL HW
      go_wp2_with fail
      go_loopw [10] (fun vj wr => ∃ (j : Nat) (M : List It) (B : Option Addr) (k d : Nat), vj = .int .i64 (j : Nat) ∧ j ≤ i ∧ k ≤ 40 * j ∧ k ≤ d ∧ d ≤ maxLen ∧ Hid (M.length = k ∧ M = allI [] ((turnQ (numQ P) t).take j) ∧ GoodL M (40 * j)) ∧ Hid (OrW w z (nP P i) (.slice PA i pc) L A n c M B k d wr)) (fun vj _ => i - iOfI vj)
      case atStart => exact ⟨0, [], none, 0, 0, rfl, by omega, by omega, by omega, by unfold maxLen; omega, Lib.hid ⟨rfl, rfl, ⟨List.Pairwise.nil, (fun y hy => by simp at hy), by simp⟩⟩, HW2⟩
      case round =>
        clear HW2
        obtain ⟨j, M, B, k, d, rfl, hj, hk40, hkd, hdm, HL, HW⟩ := hrel
        by_cases hji : j < i
        · have hji1 : (j : Int) < (i : Int) := by omega
          obtain ⟨q, hq⟩ : ∃ q, (j + t) % i = q := ⟨_, rfl⟩
          have hqi : q < i := by rw [← hq]; exact Nat.mod_lt _ (by omega)
          have hqi1 : (q : Int) < (i : Int) := by omega
          have hqI : ((j : Int) + (t : Int)) % (i : Int) = (q : Int) := by rw [← hq]; simp
          have hi0 : (i : Int) ≠ 0 := by omega
          obtain ⟨x, hx⟩ : ∃ x, P[q]? = some x := ⟨_, List.getElem?_eq_getElem (by rw [HP.out.1]; exact hqi)⟩
          have hxk := HP.out.2 x (List.mem_of_getElem? hx)
          obtain ⟨id0, FA, fn, fc, fs⟩ := x
          obtain ⟨hfn, hfnc, hfcm, hfr, hf40, hfsz⟩ := hxk
          simp only at hfn hfnc hfcm hfr hf40 hfsz
          have hgx : (nP P i)[q]? = some ⟨((1 + q : Nat) : Int), FA, fn, fc, fs⟩ := by rw [nP_get, hx]; simp [hqi]
          obtain ⟨_, A8, c8, h8, _, _, hrow⟩ := Sl.own HW.out.1
          obtain rfl : A8 = PA := by
            injection h8 with h81
            exact h81.symm
          clear h8
          obtain ⟨g, o, rfl, _, q0, q1⟩ := hrow.part hgx
          simp only at q0 q1
          have q0 : wr.cell? ⟨g, o + q * 2, none⟩ = some (.int .i64 (1 + (q : Int))) := q0
          have c5 := HW.out.2.2.2.2.2.2.2.2.1.cell_ 0 (.slice B k d) rfl
          have hok : ∀ f ∈ fs, okP f.1 = 0 := HT.out.1.2 (((1 + q : Nat) : Int), fs) (List.mem_iff_getElem?.2 ⟨q, by rw [numQ_get, hx]; rfl⟩)
          have h2 : withI M (1 + (q : Int)) fs = (putAll (1 + (q : Int)) fs M, 0) := by
            unfold withI
            rw [if_neg (by omega)]
            exact withL_of _ fs M HL.out.2.2.1 hok (by have := HL.out.1; omega)
          obtain ⟨L2, hL2⟩ : ∃ L2, putAll (1 + (q : Int)) fs M = L2 := ⟨_, rfl⟩
          rw [hL2] at h2
          have hgood := withI_good (1 + (q : Int)) fs M (40 * j) HL.out.2.2 hfsz (by omega)
          rw [h2] at hgood
          have hg2 : GoodL L2 (40 * (j + 1)) := by
            rcases hgood with ⟨_, h⟩ | ⟨h, _⟩
            · exact ⟨h.1, h.2.1, by have := h.2.2; simp only at this; omega⟩
            · exact absurd rfl h
          have hM2 : L2 = allI [] ((turnQ (numQ P) t).take (j + 1)) := by
            rw [List.take_add_one, turnQ_get _ _ _ (by rw [HT.out.2.1]; exact hji), HT.out.2.1, hq, numQ_get, hx, Option.map_some, Option.toList_some, allI_snoc, ← HL.out.2.1]
            exact hL2.symm
          have hfz : ∀ f ∈ fs, f.1.size ≤ 100000000 ∧ f.2.size ≤ 1000000000 := fun f hf => by have := hfsz f hf; omega
          have HCL := Lib.hid (fun (w' : World) (hw : Below wr.heap.size wr w') => with_is M B k d HL.out.1 (by omega) HL.out.2.2.1 (1 + (q : Int)) fs FA fn fc hfn (by omega) hfz L2 0 h2 w' (HW.out.2.2.2.2.2.1.below hw) (hfr.below (bl HW.out.2.2.2.2.2.2.2.2.2 hw)))
          have HS0 : Hid (∀ w', Below wr.heap.size wr w' → Below wr.heap.size wr w' ∧ w'.cell? ⟨g, o + q * 2, none⟩ = some (.int .i64 (1 + (q : Int))) ∧ w'.cell? ⟨g, o + q * 2 + 1, none⟩ = some (.slice FA fn fc) ∧ w'.cell? ⟨z + 1, 0, none⟩ = some (.slice B k d)) := Lib.hid fun w' h => ⟨h, (h.cell (World.block_lt_of_cell? wr _ q0)).trans q0, (h.cell (World.block_lt_of_cell? wr _ q1)).trans q1, (h.cell (World.block_lt_of_cell? wr _ c5)).trans c5⟩
          have HI := Lib.hid (And.intro hg2 hM2)
          clear hx hgx hfn hfnc hfcm hfr hf40 hfsz hrow h2 hgood hg2 hM2 hfz hok hL2 hq
          go_upto_region 15 with (fail)
          rw [hqI]
          clear hqI q0 q1 c5
          go_cut [12, 13] from 44 to 74 (fun v ve wx => OfBox wr L2 0 v ve wx)
          case first =>
            go_region_held3 (fun w' => Below wr.heap.size wr w' ∧ w'.cell? ⟨g, o + q * 2, none⟩ = some (.int .i64 (1 + (q : Int))) ∧ w'.cell? ⟨g, o + q * 2 + 1, none⟩ = some (.slice FA fn fc) ∧ w'.cell? ⟨z + 1, 0, none⟩ = some (.slice B k d))
              (first | with_reducible exact HS0.out _ (ka wr) | with_reducible exact HS0.out _ (kb wr _) | with_reducible exact HS0.out _ hX | with_reducible exact HS0.out _ (kd hX _) | with_reducible exact HS0.out _ (k1 hX _ (Nat.le_refl _) _))
              (first
                | (go_at_call 16; (with_reducible refine (HCL.out _ (ka wr)).mono ?_); rintro e w6 ⟨v6, rfl, ⟨A6, c6, rfl, hn6, hm6, hr6, hf6⟩, hb6⟩; have hX := below_of_drew hb6)
                | (go_at_call 16; (with_reducible refine (HCL.out _ (kb wr _)).mono ?_); rintro e w6 ⟨v6, rfl, ⟨A6, c6, rfl, hn6, hm6, hr6, hf6⟩, hb6⟩; have hX := bl_one hb6; have hz := (Bk.one wr _ _).below' hb6; have z0 := hz.cell_ 0 (.slice none 0 0) rfl; have y0 := hz.frozen 0))
            all_goals
              go_wp2_with fail
              go_meet
              first
                | exact ⟨_, A6, c6, rfl, rfl, hX.size, Bk.new w6 _ _, hr6.below ((Below.refl _ w6).alloc (Nat.le_refl _) _), hf6, hn6, hm6, kd hX _⟩
                | exact ⟨_, A6, c6, rfl, rfl, Nat.le_refl _, hz.set_ 0 _, hr6.only (only_set w6 wr.heap.size 0 _) (Off.fresh (B := wr.heap.size + 1) (fun ad hA => by have := hf6 ad hA; simpa using this) (by omega)), (fun ad hA => by have := hf6 ad hA; simp at this; omega), hn6, hm6, k1 hX _ (Nat.le_refl _) _⟩
          case rest =>
            obtain ⟨h, A2, c2, rfl, rfl, hh, hbk, hr2, hf2, hn2, hm2, hbx⟩ := hcut
            have hz5 := HW.out.size
            have hWC := HW.out.below hbx
            obtain ⟨n2, hn2e⟩ : ∃ n2, L2.length = n2 := ⟨_, rfl⟩
            rw [hn2e] at hbk hn2
            have x0 := hbk.cell_ 0 (.slice A2 n2 c2) rfl
            have z0 := hWC.2.2.2.2.2.2.2.2.1.cell_ 0 (.slice B k d) rfl
            have y0 := hWC.2.2.2.2.2.2.2.2.1.frozen 0
            have hn240 : n2 ≤ 40 * (j + 1) := by have := HI.out.1.2.2; omega
            have HNX := Lib.hid (And.intro (hWC.putB (L2 := L2) n2 c2 hr2 (fun ad hA => by have := hf2 ad hA; omega)) (And.intro hn2e (And.intro HI.out.2 HI.out.1)))
            clear hbk hr2 hf2 hbx hWC hh hn2e HS0 HCL
            go_wp2_with fail
            go_round
            case rel => exact ⟨j + 1, L2, A2, n2, c2, by first | rfl | go_num, by omega, hn240, hn2, hm2, Lib.hid HNX.out.2, Lib.hid HNX.out.1⟩
            case measure => simp [iOfI]; omega
        · obtain rfl : j = i := by omega
          have hji1 : ¬ ((j : Int) < (j : Int)) := by omega
          have hML : M = L := by
            rw [HT.out.1.1, HL.out.2.1, List.take_of_length_le (by rw [turnQ_len, HT.out.2.1]; exact Nat.le_refl _), allI_turn _ _ (numQ_ne P)]
          subst hML
          obtain rfl : n = k := by rw [← HT.out.2.2.1]; exact HL.out.1
          obtain ⟨s, hs⟩ : ∃ s, ofL (putX M) = s := ⟨_, rfl⟩
          have hzz : ∀ y ∈ M, y.p.size ≤ 1000000 ∧ y.sm.size ≤ 1000000 := fun y hy => by have := HT.out.2.2.2.2.1 y hy; exact ⟨by have := this.2.1; omega, by have := this.2.2.2.2.2.2; omega⟩
          have HA := Lib.hid (And.intro HT.out.2.2.1 (And.intro hs hzz))
          have c1 := HW.out.2.2.2.2.2.2.2.1.cell_ 0 (.slice A n c) rfl
          have c2 := HW.out.2.2.2.2.2.2.2.2.1.cell_ 0 (.slice B n d) rfl
          have HLA := Lib.hid (fun (w' : World) (hw : Below wr.heap.size wr w') => list_any M A n c HA.out.1 (by omega) w' (HW.out.2.2.2.1.below hw))
          have HLB := Lib.hid (fun (w' : World) (hw : Below wr.heap.size wr w') => list_any M B n d HA.out.1 (by omega) w' (HW.out.2.2.2.2.2.1.below hw))
          have HPA := Lib.hid (fun (w' : World) (hw : Below wr.heap.size wr w') => xput_any M A n c HA.out.1 (by omega) HA.out.2.2 s HA.out.2.1 w' (HW.out.2.2.2.1.below hw))
          have HPB := Lib.hid (fun (w' : World) (hw : Below wr.heap.size wr w') => xput_any M B n d HA.out.1 (by omega) HA.out.2.2 s HA.out.2.1 w' (HW.out.2.2.2.2.2.1.below hw))
          have HSM := Lib.hid (fun (w' : World) (LA : Option Addr) (la : Nat) (hl : Rd w' LA (itf M)) (LB : Option Addr) (lb : Nat) (hl2 : Rd w' LB (itf M)) => sameI_true M LA LB n la lb w' HA.out.1 (by omega) hl hl2)
          have HS0 : Hid (∀ w', Below wr.heap.size wr w' → Below wr.heap.size wr w' ∧ w'.cell? ⟨z, 0, none⟩ = some (.slice A n c) ∧ w'.cell? ⟨z + 1, 0, none⟩ = some (.slice B n d)) := Lib.hid fun w' h => ⟨h, (h.cell (World.block_lt_of_cell? wr _ c1)).trans c1, (h.cell (World.block_lt_of_cell? wr _ c2)).trans c2⟩
          have hss : (s.toList == s.toList) = true := by simp
          have HBZ := Lib.hid HW.out.2.2.2.2.2.2.2.2.2
          clear hs hzz c1 c2
          go_wp2_with fail
          go_region_held3 (fun w' => Below wr.heap.size wr w' ∧ w'.cell? ⟨z, 0, none⟩ = some (.slice A n c) ∧ w'.cell? ⟨z + 1, 0, none⟩ = some (.slice B n d))
            (first | with_reducible exact HS0.out _ (ka wr) | with_reducible exact HS0.out _ hX1 | with_reducible exact HS0.out _ hX2 | with_reducible exact HS0.out _ hX3 | with_reducible exact HS0.out _ hX4 | with_reducible exact HS0.out _ hX5 | with_reducible exact HS0.out _ hX6)
            (first
              | (go_at_call 12; (with_reducible refine (HLA.out _ (ka wr)).mono ?_); rintro e w6 ⟨LA, la, rfl, hl1, hl2, hrl, hb6⟩; have hX1 := below_of_drew hb6)
              | (go_at_call 12; (with_reducible refine (HLB.out _ hX1).mono ?_); rintro e w7 ⟨LB, lb, rfl, hl3, hl4, hrl2, hb7⟩; have hX2 := bl hX1 hb7; have hrl1 := hrl.below hb7)
              | (go_at_call 11; (with_reducible refine (HSM.out _ LA la hrl1 LB lb hrl2).mono ?_); rintro e w8 ⟨rfl, hb8⟩; have hX3 := bl hX2 hb8)
              | (go_at_call 17; (with_reducible refine (HPA.out _ hX3).mono ?_); rintro e w9 ⟨rfl, hb9⟩; have hX4 := bl hX3 hb9)
              | (go_at_call 17; (with_reducible refine (HPB.out _ hX4).mono ?_); rintro e w10 ⟨rfl, hb10⟩; have hX5 := bl hX4 hb10)
              | (go_at_call 14; (with_reducible refine (awakeI_any _).mono ?_); rintro e w11 ⟨rfl, hb11⟩; have hX6 := bl hX5 hb11))
          all_goals
            go_wp2_with fail
            go_ret
            exact ⟨rfl, bl HBZ.out hX6⟩
end Go.Proofs.Ytnhbkfefpkocaaa
