/-
  The walk of bitset.Take.
-/
import Derived.Test.YtaagdoaeefhleaaDoorP10
import Derived.Test.YtaagdoaeefhleaaDoorBitK
import Derived.Test.YtaagdoaeefhleaaDoorFixT
import Derived.Deep.RegionWith
namespace Go.Proofs.YtaagdoaeefhleaaDoor
open Go.RowKit

set_option maxRecDepth 20000 in
set_option maxHeartbeats 2000000 in
theorem within_gen (n m : Int) (L M : List Bool) (w : World) (hL : L.length ≤ 256) (hM : M.length ≤ 256) :
    Calls Tryd.prog 41 #[.agg #[.int .i64 n, .int .u64 (wdN L 0 : Nat), .int .u64 (wdN L 1 : Nat), .int .u64 (wdN L 2 : Nat), .int .u64 (wdN L 3 : Nat)], .agg #[.int .i64 m, .int .u64 (wdN M 0 : Nat), .int .u64 (wdN M 1 : Nat), .int .u64 (wdN M 2 : Nat), .int .u64 (wdN M 3 : Nat)]] w fun e w' => e = .returned (.bool (wiR L M 0)) ∧ Below w.heap.size w w' := by
  obtain ⟨R, hR⟩ : ∃ R, R = wiR L M 0 := ⟨_, rfl⟩
  have htr : (∀ q, q < 4 → zW L M q = 0) → R = true := fun h => by rw [hR]; exact wi_true L M hL h
  have hfa : ∀ q, zW L M q ≠ 0 → R = false := fun q h => by rw [hR]; exact wi_false L M q h
  obtain ⟨B, ht⟩ : ∃ B, (n == m && (((wdN L 0 : Nat) : Int) == ((wdN M 0 : Nat) : Int) && ((wdN L 1 : Nat) : Int) == ((wdN M 1 : Nat) : Int) && ((wdN L 2 : Nat) : Int) == ((wdN M 2 : Nat) : Int) && ((wdN L 3 : Nat) : Int) == ((wdN M 3 : Nat) : Int))) = B := ⟨_, rfl⟩
  have heq : B = true → R = true := fun h => by
    rw [h] at ht
    simp only [Bool.and_eq_true, beq_iff_eq] at ht
    obtain ⟨_, ⟨⟨h0, h1⟩, h2⟩, h3⟩ := ht
    rw [hR, wiR_iff]
    intro i _ hi
    rw [← words_ext L M hL hM (fun q hq => by
      have : q = 0 ∨ q = 1 ∨ q = 2 ∨ q = 3 := by omega
      rcases this with rfl | rfl | rfl | rfl <;> omega) i]
    exact hi
  rw [← hR]
  clear hR
  have hz : ∀ q, zW L M q = bits .andNot .u64 ((wdN L q : Nat) : Int) ((wdN M q : Nat) : Int) := fun _ => rfl
  have hz0 := hz 0
  have hz1 := hz 1
  have hz2 := hz 2
  have hz3 := hz 3
  generalize ((wdN L 0 : Nat) : Int) = x0 at ht hz0 ⊢
  generalize ((wdN L 1 : Nat) : Int) = x1 at ht hz1 ⊢
  generalize ((wdN L 2 : Nat) : Int) = x2 at ht hz2 ⊢
  generalize ((wdN L 3 : Nat) : Int) = x3 at ht hz3 ⊢
  generalize ((wdN M 0 : Nat) : Int) = y0 at ht hz0 ⊢
  generalize ((wdN M 1 : Nat) : Int) = y1 at ht hz1 ⊢
  generalize ((wdN M 2 : Nat) : Int) = y2 at ht hz2 ⊢
  generalize ((wdN M 3 : Nat) : Int) = y3 at ht hz3 ⊢
  clear hz
  have hq : ∀ w, (binOp .eql 32 (.agg #[.int .i64 n, .int .u64 x0, .int .u64 x1, .int .u64 x2, .int .u64 x3]) (.agg #[.int .i64 m, .int .u64 y0, .int .u64 y1, .int .u64 y2, .int .u64 y3])).run Tryd.prog w = .ok (.bool B) w := fun w => by rw [eq_sets, ht]
  have i0 : ∀ w, (Instr.index 30 (.agg #[.int .u64 x0, .int .u64 x1, .int .u64 x2, .int .u64 x3]) (.int .i64 0)).run Tryd.prog w = .ok (.int .u64 x0) w := fun _ => by kernel_rfl
  have i1 : ∀ w, (Instr.index 30 (.agg #[.int .u64 x0, .int .u64 x1, .int .u64 x2, .int .u64 x3]) (.int .i64 1)).run Tryd.prog w = .ok (.int .u64 x1) w := fun _ => by kernel_rfl
  have i2 : ∀ w, (Instr.index 30 (.agg #[.int .u64 x0, .int .u64 x1, .int .u64 x2, .int .u64 x3]) (.int .i64 2)).run Tryd.prog w = .ok (.int .u64 x2) w := fun _ => by kernel_rfl
  have i3 : ∀ w, (Instr.index 30 (.agg #[.int .u64 x0, .int .u64 x1, .int .u64 x2, .int .u64 x3]) (.int .i64 3)).run Tryd.prog w = .ok (.int .u64 x3) w := fun _ => by kernel_rfl
  have Htr := Lib.hid htr
  have Hfa := Lib.hid hfa
  have Heq := Lib.hid heq
  have HZ0 := Lib.hid hz0
  have HZ1 := Lib.hid hz1
  have HZ2 := Lib.hid hz2
  have HZ3 := Lib.hid hz3
  clear htr hfa heq ht hz0 hz1 hz2 hz3
  have hSw := Bk.new w 32 #[.int .i64 n, .int .u64 x0, .int .u64 x1, .int .u64 x2, .int .u64 x3]
  have hTw := Bk.new (w.alloc (.cells #[.int .i64 n, .int .u64 x0, .int .u64 x1, .int .u64 x2, .int .u64 x3] 32)) 32 #[.int .i64 m, .int .u64 y0, .int .u64 y1, .int .u64 y2, .int .u64 y3]
  cases B with
  | true =>
    go_enter Tryd.func41, Tryd.ntmps41
    go_wp2
    go_ret
    exact ⟨by rw [Heq.out trivial]; rfl, ((Below.refl _ _).alloc (Nat.le_refl _) _).alloc (by simp) _⟩
  | false =>
    go_enter Tryd.func41, Tryd.ntmps41
    go_wp2
    go_loopw [5, 6, 12] (fun _ _ i wr => ∃ k : Nat, k ≤ 4 ∧ i = .int .i64 k ∧ Hid (∀ q, q < k → zW L M q = 0) ∧ Bk wr w.heap.size 32 #[.int .i64 n, .int .u64 x0, .int .u64 x1, .int .u64 x2, .int .u64 x3] ∧ Bk wr (w.heap.size + 1) 32 #[.int .i64 m, .int .u64 y0, .int .u64 y1, .int .u64 y2, .int .u64 y3] ∧ Below w.heap.size w wr) (fun _ _ i _ => 4 - (intOf i).toNat)
    case atStart => exact ⟨0, by omega, rfl, fun q h => absurd h (by omega), hSw.alloc _, by simpa using hTw, ((Below.refl _ _).alloc (Nat.le_refl _) _).alloc (by simp) _⟩
    case round =>
      obtain ⟨k, hk, rfl, hp, hS, hT, hb⟩ := hrel
      have hkk : k = 0 ∨ k = 1 ∨ k = 2 ∨ k = 3 ∨ k = 4 := by omega
      have hc0 := hT.cell 1
      have hc1 := hT.cell 2
      have hc2 := hT.cell 3
      have hc3 := hT.cell 4
      simp only [List.getElem?_toArray, List.getElem?_cons_succ, List.getElem?_cons_zero] at hc0 hc1 hc2 hc3
      rcases hkk with rfl | rfl | rfl | rfl | rfl
      · by_cases hzz : zW L M 0 = 0
        · have Hp : Hid (∀ q, q < 0 + 1 → zW L M q = 0) := fun q hq => by
            by_cases h : q = 0
            · subst h; exact hzz
            · exact hp.out q (by omega)
          rw [HZ0.out] at hzz
          go_wp2
          go_roundw
          case rel => exact ⟨0 + 1, by omega, by go_num, Hp, hS, hT, hb⟩
          case measure => simp [intOf]
        · have HR := Lib.hid (Hfa.out 0 hzz)
          rw [HZ0.out] at hzz
          go_wp2
          go_ret
          exact ⟨by rw [HR.out]; rfl, hb⟩
      · by_cases hzz : zW L M 1 = 0
        · have Hp : Hid (∀ q, q < 1 + 1 → zW L M q = 0) := fun q hq => by
            by_cases h : q = 1
            · subst h; exact hzz
            · exact hp.out q (by omega)
          rw [HZ1.out] at hzz
          go_wp2
          go_roundw
          case rel => exact ⟨1 + 1, by omega, by go_num, Hp, hS, hT, hb⟩
          case measure => simp [intOf]
        · have HR := Lib.hid (Hfa.out 1 hzz)
          rw [HZ1.out] at hzz
          go_wp2
          go_ret
          exact ⟨by rw [HR.out]; rfl, hb⟩
      · by_cases hzz : zW L M 2 = 0
        · have Hp : Hid (∀ q, q < 2 + 1 → zW L M q = 0) := fun q hq => by
            by_cases h : q = 2
            · subst h; exact hzz
            · exact hp.out q (by omega)
          rw [HZ2.out] at hzz
          go_wp2
          go_roundw
          case rel => exact ⟨2 + 1, by omega, by go_num, Hp, hS, hT, hb⟩
          case measure => simp [intOf]
        · have HR := Lib.hid (Hfa.out 2 hzz)
          rw [HZ2.out] at hzz
          go_wp2
          go_ret
          exact ⟨by rw [HR.out]; rfl, hb⟩
      · by_cases hzz : zW L M 3 = 0
        · have Hp : Hid (∀ q, q < 3 + 1 → zW L M q = 0) := fun q hq => by
            by_cases h : q = 3
            · subst h; exact hzz
            · exact hp.out q (by omega)
          rw [HZ3.out] at hzz
          go_wp2
          go_roundw
          case rel => exact ⟨3 + 1, by omega, by go_num, Hp, hS, hT, hb⟩
          case measure => simp [intOf]
        · have HR := Lib.hid (Hfa.out 3 hzz)
          rw [HZ3.out] at hzz
          go_wp2
          go_ret
          exact ⟨by rw [HR.out]; rfl, hb⟩
      · have HR := Lib.hid (Htr.out hp.out)
        go_wp2
        go_ret
        exact ⟨by rw [HR.out]; rfl, hb⟩

theorem setV_nil : setV [] = .agg #[.int .i64 0, .int .u64 0, .int .u64 0, .int .u64 0, .int .u64 0] := setV_new 0
theorem take_word (s : List UInt8) (j : Nat) (hs : s.length = 32) (hj : j < 4) (r : List UInt8) (hr : r = s.drop (8 * j)) (r2 : List UInt8) (hr2 : r2 = s.drop (8 * (j + 1))) : takeF r 8 = (wrap64 (wdN (bitsT s) j : Nat), r2, 0) := by
  rw [wdN_bits s j hs hj]
  subst hr
  subst hr2
  unfold takeF
  rw [if_neg (by omega), if_neg (by rw [List.length_drop]; omega)]
  rw [show (8 : Int).toNat = 8 from rfl, List.drop_drop, show 8 * j + 8 = 8 * (j + 1) by omega]
  rfl
theorem wd_wrap (L : List Bool) (j : Nat) : IntKind.u64.wrap (wrap64 (wdN L j : Nat)) = (wdN L j : Nat) := by
  have := wdN_lt L j
  rw [IntKind.wrap_u64]
  unfold wrap64
  omega
/-- What bitset.Take answers. -/
def takeB (n : Int) (s : List UInt8) : List Bool × Int :=
  if n < 0 ∨ 256 < n then ([], 1) else if s.length ≠ 32 then ([], 2) else if wiR (bitsT s) (fullB n.toNat) 0 = true then ((bitsT s).take n.toNat, 0) else ([], 2)

/-- The first k numbers of n are in. -/
def fillB (n k : Nat) : List Bool := List.replicate k true ++ List.replicate (n - k) false
theorem fillB_length (n k : Nat) (h : k ≤ n) : (fillB n k).length = n := by simp [fillB]; omega
theorem fillB_0 (n : Nat) (h : n ≤ 256) : newB n = fillB n 0 := by unfold newB fillB clampB; simp; omega
theorem fillB_n (n : Nat) : fillB n n = fullB n := by simp [fillB, fullB]
theorem fillB_step (n k : Nat) (h : k < n) : setB (fillB n k) k true = fillB n (k + 1) := by
  unfold setB fillB
  rw [if_pos (by omega), show ((k : Int)).toNat = k from by omega, List.set_append_right _ _ (by simp)]
  rw [show n - k = (n - (k + 1)) + 1 by omega, List.replicate_succ, List.replicate_succ']
  simp

theorem within_val (n m : Int) (L M : List Bool) (b : Bool) (w : World) (hL : L.length ≤ 256) (hM : M.length ≤ 256) (hb : wiR L M 0 = b) :
    Calls Tryd.prog 41 #[.agg #[.int .i64 n, .int .u64 (wdN L 0 : Nat), .int .u64 (wdN L 1 : Nat), .int .u64 (wdN L 2 : Nat), .int .u64 (wdN L 3 : Nat)], .agg #[.int .i64 m, .int .u64 (wdN M 0 : Nat), .int .u64 (wdN M 1 : Nat), .int .u64 (wdN M 2 : Nat), .int .u64 (wdN M 3 : Nat)]] w fun e w' => e = .returned (.bool b) ∧ Below w.heap.size w w' := by
  rw [← hb]
  exact within_gen n m L M w hL hM
theorem with_is (L M : List Bool) (i : Int) (w : World) (hL : L.length ≤ 256) (h : setB L i true = M) : Calls Tryd.prog 17 #[.agg #[.int .i64 ((L).length : Nat), .int .u64 (wdN (L) 0 : Nat), .int .u64 (wdN (L) 1 : Nat), .int .u64 (wdN (L) 2 : Nat), .int .u64 (wdN (L) 3 : Nat)], .int .i64 i] w fun e w' => e = .returned (.agg #[.int .i64 ((M).length : Nat), .int .u64 (wdN M 0 : Nat), .int .u64 (wdN M 1 : Nat), .int .u64 (wdN M 2 : Nat), .int .u64 (wdN M 3 : Nat)]) ∧ Below w.heap.size w w' := by
  rw [← h]
  exact with_any L i w hL
theorem SetAt.free5 {w : World} {g : Nat} {L : List Bool} (h : SetAt w g L) : w.frozen? ⟨g, 0, none⟩ = false ∧ w.frozen? ⟨g, 1, none⟩ = false ∧ w.frozen? ⟨g, 2, none⟩ = false ∧ w.frozen? ⟨g, 3, none⟩ = false ∧ w.frozen? ⟨g, 4, none⟩ = false :=
  ⟨Bk.frozen h 0, Bk.frozen h 1, Bk.frozen h 2, Bk.frozen h 3, Bk.frozen h 4⟩

set_option maxRecDepth 20000 in
set_option maxHeartbeats 4000000 in
theorem take_any (n : Int) (s : ByteArray) (w : World) (_hs : s.size ≤ 9223372036854775807) :
    Calls Tryd.prog 28 #[.int .i64 n, .string s] w fun e w' => e = .returned (.tuple #[setV (takeB n s.toList).1, .int .i64 (takeB n s.toList).2]) ∧ Below w.heap.size w w' := by
  by_cases h0 : n < 0
  · have H := Lib.hid (show takeB n s.toList = ([], 1) by unfold takeB; rw [if_pos (.inl h0)])
    rw [H.out, setV_nil]
    go_enter Tryd.func28, Tryd.ntmps28
    go_wp2
    exact bodyPost_ret (v := .tuple #[.agg #[.int .i64 0, .int .u64 0, .int .u64 0, .int .u64 0, .int .u64 0], .int .i64 1]) (by simp [results, Tryd.results28, go_sem]) rfl ⟨rfl, (Below.refl _ _).alloc (Nat.le_refl _) _⟩
  · by_cases h1 : 256 < n
    · have H := Lib.hid (show takeB n s.toList = ([], 1) by unfold takeB; rw [if_pos (.inr h1)])
      rw [H.out, setV_nil]
      go_enter Tryd.func28, Tryd.ntmps28
      go_wp2
      exact bodyPost_ret (v := .tuple #[.agg #[.int .i64 0, .int .u64 0, .int .u64 0, .int .u64 0, .int .u64 0], .int .i64 1]) (by simp [results, Tryd.results28, go_sem]) rfl ⟨rfl, (Below.refl _ _).alloc (Nat.le_refl _) _⟩
    · by_cases h2 : s.size = 32
      · have Hsz := Lib.hid h2
        obtain ⟨N, rfl⟩ : ∃ N : Nat, n = N := ⟨n.toNat, by omega⟩
        obtain ⟨V, hV⟩ : ∃ V, setV (takeB (N : Nat) s.toList).1 = V := ⟨_, rfl⟩
        obtain ⟨C, hC⟩ : ∃ C, (takeB (N : Nat) s.toList).2 = C := ⟨_, rfl⟩
        rw [hV, hC]
        have HV := Lib.hid hV
        have HC := Lib.hid hC
        clear hV hC
        go_enter Tryd.func28, Tryd.ntmps28
        have e32 : ((s.size : Int) == 32) = true := by rw [h2]; rfl
        have e32' : ((s.size : Int) != 32) = false := by rw [h2]; rfl
        go_wp2
        go_loopw [1, 7, 8, 9, 10, 26] (fun t _ _ _ _ i wr => ∃ (k : Nat) (r : ByteArray), k ≤ 4 ∧ i = .int .i64 k ∧ t = .string r ∧ Hid (r.toList = s.toList.drop (8 * k)) ∧ ((k = 0 ∧ Bk wr (w.heap.size + 1) 32 #[.int .i64 (N : Nat), .int .u64 0, .int .u64 0, .int .u64 0, .int .u64 0]) ∨ (k = 1 ∧ Bk wr (w.heap.size + 1) 32 #[.int .i64 (N : Nat), .int .u64 (wdN (bitsT s.toList) 0 : Nat), .int .u64 0, .int .u64 0, .int .u64 0]) ∨ (k = 2 ∧ Bk wr (w.heap.size + 1) 32 #[.int .i64 (N : Nat), .int .u64 (wdN (bitsT s.toList) 0 : Nat), .int .u64 (wdN (bitsT s.toList) 1 : Nat), .int .u64 0, .int .u64 0]) ∨ (k = 3 ∧ Bk wr (w.heap.size + 1) 32 #[.int .i64 (N : Nat), .int .u64 (wdN (bitsT s.toList) 0 : Nat), .int .u64 (wdN (bitsT s.toList) 1 : Nat), .int .u64 (wdN (bitsT s.toList) 2 : Nat), .int .u64 0]) ∨ (k = 4 ∧ Bk wr (w.heap.size + 1) 32 #[.int .i64 (N : Nat), .int .u64 (wdN (bitsT s.toList) 0 : Nat), .int .u64 (wdN (bitsT s.toList) 1 : Nat), .int .u64 (wdN (bitsT s.toList) 2 : Nat), .int .u64 (wdN (bitsT s.toList) 3 : Nat)])) ∧ Bk wr w.heap.size 32 #[.int .i64 0, .int .u64 0, .int .u64 0, .int .u64 0, .int .u64 0] ∧ Below w.heap.size w wr) (fun _ _ _ _ _ i _ => 4 - (intOf i).toNat)
        case atStart =>
          refine ⟨0, s, by omega, rfl, rfl, by rfl, .inl ⟨rfl, ?_⟩, ?_, ?_⟩
          · have hN := Bk.new (w.alloc (.cells #[.int .i64 0, .int .u64 0, .int .u64 0, .int .u64 0, .int .u64 0] 32)) 32 #[.int .i64 (N : Nat), .int .u64 0, .int .u64 0, .int .u64 0, .int .u64 0]
            simpa using hN
          · exact (Bk.new w _ _).alloc _
          · exact ((Below.refl _ _).alloc (Nat.le_refl _) _).alloc (by simp) _
        case round =>
          obtain ⟨k, r, hk, rfl, rfl, Hr, hS, hZ, hb⟩ := hrel
          rcases hS with ⟨rfl, hS⟩ | ⟨rfl, hS⟩ | ⟨rfl, hS⟩ | ⟨rfl, hS⟩ | ⟨rfl, hS⟩
          · obtain ⟨r2, hr2⟩ : ∃ r2 : ByteArray, r2.toList = s.toList.drop (8 * 1) := ⟨ofL (s.toList.drop (8 * 1)), toList_ofL _⟩
            have Ht := Lib.hid (take_word s.toList 0 (by rw [size_toList]; exact Hsz.out) (by omega) r.toList Hr.out r2.toList hr2)
            have Hr2 := Lib.hid hr2
            have hrs : r.size ≤ 9223372036854775807 := by rw [← size_toList, Hr.out, List.length_drop, size_toList, Hsz.out]; omega
            have Hw := Lib.hid (wd_wrap (bitsT s.toList) 0)
            clear hr2
            go_wp2_with fail
            refine (takeF_is r r2 8 _ 0 _ hrs Ht.out).mono ?_
            rintro e w2 ⟨rfl, hb2⟩
            have hS1 := hS.below' hb2
            have hZ1 := hZ.below' hb2
            have hb1 := below_then hb hb2 hb.size
            have hc := hS1.cell 1
            have hf := hS1.frozen 1
            have hS2 := hS1.set_ 1 (.int .u64 (wdN (bitsT s.toList) 0 : Nat))
            have hZ2 := hZ1.far (p := ⟨w.heap.size + 1, 1, none⟩) (by show w.heap.size ≠ w.heap.size + 1; omega) (.int .u64 (wdN (bitsT s.toList) 0 : Nat))
            have hb3 := hb1.setCell (p := ⟨w.heap.size + 1, 1, none⟩) (Nat.le_succ _) (.int .u64 (wdN (bitsT s.toList) 0 : Nat))
            simp only [List.getElem?_toArray, List.getElem?_cons_succ, List.getElem?_cons_zero] at hc
            go_wp2
            rw [Hw.out]
            go_roundw
            case rel => exact ⟨1, r2, by omega, by go_num, rfl, Hr2, .inr (.inl ⟨rfl, hS2⟩), hZ2, hb3⟩
            case measure => simp [intOf]
          · obtain ⟨r2, hr2⟩ : ∃ r2 : ByteArray, r2.toList = s.toList.drop (8 * 2) := ⟨ofL (s.toList.drop (8 * 2)), toList_ofL _⟩
            have Ht := Lib.hid (take_word s.toList 1 (by rw [size_toList]; exact Hsz.out) (by omega) r.toList Hr.out r2.toList hr2)
            have Hr2 := Lib.hid hr2
            have hrs : r.size ≤ 9223372036854775807 := by rw [← size_toList, Hr.out, List.length_drop, size_toList, Hsz.out]; omega
            have Hw := Lib.hid (wd_wrap (bitsT s.toList) 1)
            clear hr2
            go_wp2_with fail
            refine (takeF_is r r2 8 _ 0 _ hrs Ht.out).mono ?_
            rintro e w2 ⟨rfl, hb2⟩
            have hS1 := hS.below' hb2
            have hZ1 := hZ.below' hb2
            have hb1 := below_then hb hb2 hb.size
            have hc := hS1.cell 2
            have hf := hS1.frozen 2
            have hS2 := hS1.set_ 2 (.int .u64 (wdN (bitsT s.toList) 1 : Nat))
            have hZ2 := hZ1.far (p := ⟨w.heap.size + 1, 2, none⟩) (by show w.heap.size ≠ w.heap.size + 1; omega) (.int .u64 (wdN (bitsT s.toList) 1 : Nat))
            have hb3 := hb1.setCell (p := ⟨w.heap.size + 1, 2, none⟩) (Nat.le_succ _) (.int .u64 (wdN (bitsT s.toList) 1 : Nat))
            simp only [List.getElem?_toArray, List.getElem?_cons_succ, List.getElem?_cons_zero] at hc
            go_wp2
            rw [Hw.out]
            go_roundw
            case rel => exact ⟨2, r2, by omega, by go_num, rfl, Hr2, .inr (.inr (.inl ⟨rfl, hS2⟩)), hZ2, hb3⟩
            case measure => simp [intOf]
          · obtain ⟨r2, hr2⟩ : ∃ r2 : ByteArray, r2.toList = s.toList.drop (8 * 3) := ⟨ofL (s.toList.drop (8 * 3)), toList_ofL _⟩
            have Ht := Lib.hid (take_word s.toList 2 (by rw [size_toList]; exact Hsz.out) (by omega) r.toList Hr.out r2.toList hr2)
            have Hr2 := Lib.hid hr2
            have hrs : r.size ≤ 9223372036854775807 := by rw [← size_toList, Hr.out, List.length_drop, size_toList, Hsz.out]; omega
            have Hw := Lib.hid (wd_wrap (bitsT s.toList) 2)
            clear hr2
            go_wp2_with fail
            refine (takeF_is r r2 8 _ 0 _ hrs Ht.out).mono ?_
            rintro e w2 ⟨rfl, hb2⟩
            have hS1 := hS.below' hb2
            have hZ1 := hZ.below' hb2
            have hb1 := below_then hb hb2 hb.size
            have hc := hS1.cell 3
            have hf := hS1.frozen 3
            have hS2 := hS1.set_ 3 (.int .u64 (wdN (bitsT s.toList) 2 : Nat))
            have hZ2 := hZ1.far (p := ⟨w.heap.size + 1, 3, none⟩) (by show w.heap.size ≠ w.heap.size + 1; omega) (.int .u64 (wdN (bitsT s.toList) 2 : Nat))
            have hb3 := hb1.setCell (p := ⟨w.heap.size + 1, 3, none⟩) (Nat.le_succ _) (.int .u64 (wdN (bitsT s.toList) 2 : Nat))
            simp only [List.getElem?_toArray, List.getElem?_cons_succ, List.getElem?_cons_zero] at hc
            go_wp2
            rw [Hw.out]
            go_roundw
            case rel => exact ⟨3, r2, by omega, by go_num, rfl, Hr2, .inr (.inr (.inr (.inl ⟨rfl, hS2⟩))), hZ2, hb3⟩
            case measure => simp [intOf]
          · obtain ⟨r2, hr2⟩ : ∃ r2 : ByteArray, r2.toList = s.toList.drop (8 * 4) := ⟨ofL (s.toList.drop (8 * 4)), toList_ofL _⟩
            have Ht := Lib.hid (take_word s.toList 3 (by rw [size_toList]; exact Hsz.out) (by omega) r.toList Hr.out r2.toList hr2)
            have Hr2 := Lib.hid hr2
            have hrs : r.size ≤ 9223372036854775807 := by rw [← size_toList, Hr.out, List.length_drop, size_toList, Hsz.out]; omega
            have Hw := Lib.hid (wd_wrap (bitsT s.toList) 3)
            clear hr2
            go_wp2_with fail
            refine (takeF_is r r2 8 _ 0 _ hrs Ht.out).mono ?_
            rintro e w2 ⟨rfl, hb2⟩
            have hS1 := hS.below' hb2
            have hZ1 := hZ.below' hb2
            have hb1 := below_then hb hb2 hb.size
            have hc := hS1.cell 4
            have hf := hS1.frozen 4
            have hS2 := hS1.set_ 4 (.int .u64 (wdN (bitsT s.toList) 3 : Nat))
            have hZ2 := hZ1.far (p := ⟨w.heap.size + 1, 4, none⟩) (by show w.heap.size ≠ w.heap.size + 1; omega) (.int .u64 (wdN (bitsT s.toList) 3 : Nat))
            have hb3 := hb1.setCell (p := ⟨w.heap.size + 1, 4, none⟩) (Nat.le_succ _) (.int .u64 (wdN (bitsT s.toList) 3 : Nat))
            simp only [List.getElem?_toArray, List.getElem?_cons_succ, List.getElem?_cons_zero] at hc
            go_wp2
            rw [Hw.out]
            go_roundw
            case rel => exact ⟨4, r2, by omega, by go_num, rfl, Hr2, .inr (.inr (.inr (.inr (⟨rfl, hS2⟩)))), hZ2, hb3⟩
            case measure => simp [intOf]
          · go_wp2_with fail
            refine (new_any (N : Nat) _).mono ?_
            rintro e w3 ⟨rfl, hb3⟩
            rw [fillB_0 N (by omega)]
            have hS3 := hS.below' hb3
            have hZ3 := hZ.below' hb3
            have hb4 := below_then hb hb3 hb.size
            have hF3 := SetAt.new w3 (fillB N 0)
            have hg : w.heap.size + 1 < w3.heap.size := hS3.lt
            obtain ⟨g, hgg⟩ : ∃ g, g = w3.heap.size := ⟨_, rfl⟩
            rw [← hgg] at hF3 hg
            have hS4 := hS3.alloc (.cells #[.int .i64 ((fillB N 0).length : Nat), .int .u64 (wdN (fillB N 0) 0 : Nat), .int .u64 (wdN (fillB N 0) 1 : Nat), .int .u64 (wdN (fillB N 0) 2 : Nat), .int .u64 (wdN (fillB N 0) 3 : Nat)] 32)
            have hZ4 := hZ3.alloc (.cells #[.int .i64 ((fillB N 0).length : Nat), .int .u64 (wdN (fillB N 0) 0 : Nat), .int .u64 (wdN (fillB N 0) 1 : Nat), .int .u64 (wdN (fillB N 0) 2 : Nat), .int .u64 (wdN (fillB N 0) 3 : Nat)] 32)
            have hb5 := hb4.alloc (by have := hb4.size; omega) (.cells #[.int .i64 ((fillB N 0).length : Nat), .int .u64 (wdN (fillB N 0) 0 : Nat), .int .u64 (wdN (fillB N 0) 1 : Nat), .int .u64 (wdN (fillB N 0) 2 : Nat), .int .u64 (wdN (fillB N 0) 3 : Nat)] 32)
            have Hgg := Lib.hid hgg
            clear hgg hS hZ hb hS3 hZ3 hb4 hb3
            unfold setV
            go_wp2_with fail
            rw [← Hgg.out]
            go_loopw [12, 45] (fun _ i wr => ∃ k : Nat, k ≤ N ∧ i = .int .i64 k ∧ SetAt wr g (fillB N k) ∧ Bk wr (w.heap.size + 1) 32 #[.int .i64 (N : Nat), .int .u64 (wdN (bitsT s.toList) 0 : Nat), .int .u64 (wdN (bitsT s.toList) 1 : Nat), .int .u64 (wdN (bitsT s.toList) 2 : Nat), .int .u64 (wdN (bitsT s.toList) 3 : Nat)] ∧ Bk wr w.heap.size 32 #[.int .i64 0, .int .u64 0, .int .u64 0, .int .u64 0, .int .u64 0] ∧ Below w.heap.size w wr) (fun _ i _ => N - (intOf i).toNat)
            case atStart => exact ⟨0, by omega, rfl, hF3, hS4, hZ4, hb5⟩
            case round =>
              clear hF3 hS4 hZ4 hb5
              obtain ⟨k, hk, rfl, hF, hS, hZ, hb⟩ := hrel
              by_cases hlt : (k : Int) < (N : Int)
              · have hst := fillB_step N k (by omega)
                have hfl := fillB_length N k hk
                obtain ⟨F, hFF⟩ : ∃ F, fillB N k = F := ⟨_, rfl⟩
                obtain ⟨G, hGG⟩ : ∃ G, fillB N (k + 1) = G := ⟨_, rfl⟩
                rw [hFF] at hst hfl hF
                rw [hGG] at hst
                replace hfl : F.length ≤ 256 := by omega
                have Hst := Lib.hid hst
                have HG := Lib.hid hGG
                clear hst hFF hGG
                obtain ⟨hc0, hc1, hc2, hc3, hc4⟩ := hF.cells
                go_wp2_with fail
                with_reducible refine (with_is F G k _ hfl Hst.out).mono ?_
                rintro e w2 ⟨rfl, hb2⟩
                have hF2 := hF.below' hb2
                have hS2 := hS.below' hb2
                have hZ2 := hZ.below' hb2
                have hbb := below_then hb hb2 hb.size
                clear hc0 hc1 hc2 hc3 hc4
                obtain ⟨hc0, hc1, hc2, hc3, hc4⟩ := hF2.cells
                obtain ⟨z0, z1, z2, z3, z4⟩ := SetAt.free5 hF2
                have hon := put_only w2 g G
                have hFp := SetAt.put hF2 G
                have hSp := Bk.only hS2 hon (by omega)
                have hZp := Bk.only hZ2 hon (by omega)
                have hbp := hbb.trans (below_only hon (by omega) (by have := hbb.size; omega))
                go_wp2_with fail
                go_roundw
                case rel => exact ⟨k + 1, by omega, by go_num, by rw [HG.out]; exact hFp, hSp, hZp, hbp⟩
                case measure => simp [intOf]; omega
              · obtain rfl : k = N := by omega
                rw [fillB_n] at hF
                have hfl : (fullB k).length ≤ 256 := by unfold fullB; simp; omega
                obtain ⟨D, hD⟩ : ∃ D, wiR (bitsT s.toList) (fullB k) 0 = D := ⟨_, rfl⟩
                have HD := Lib.hid hD
                have htk : takeB (k : Nat) s.toList = if D = true then ((bitsT s.toList).take k, 0) else ([], 2) := by
                  unfold takeB
                  rw [if_neg (by omega), if_neg (by rw [size_toList]; have := Hsz.out; omega), ← hD]
                  rfl
                have Htk := Lib.hid htk
                have Hwd := Lib.hid (fun j => wdN_take (bitsT s.toList) k j)
                have Hln := Lib.hid (show ((bitsT s.toList).take k).length = k by rw [List.length_take, bitsT_length]; omega)
                have hbl : (bitsT s.toList).length ≤ 256 := by rw [bitsT_length]; omega
                clear hD htk
                generalize bitsT s.toList = T at *
                generalize fullB k = Fu at *
                obtain ⟨hc0, hc1, hc2, hc3, hc4⟩ := hF.cells
                have d0 := hS.cell 0
                have d1 := hS.cell 1
                have d2 := hS.cell 2
                have d3 := hS.cell 3
                have d4 := hS.cell 4
                simp only [List.getElem?_toArray, List.getElem?_cons_succ, List.getElem?_cons_zero] at d0 d1 d2 d3 d4
                go_wp2_with fail
                with_reducible refine (within_val k Fu.length T Fu D _ hbl hfl HD.out).mono ?_
                rintro e w5 ⟨rfl, hb5⟩
                have hS5 := hS.below' hb5
                have hZ5 := hZ.below' hb5
                have hbz := below_then hb hb5 hb.size
                clear hc0 hc1 hc2 hc3 hc4 d0 d1 d2 d3 d4
                have d0 := hS5.cell 0
                have d1 := hS5.cell 1
                have d2 := hS5.cell 2
                have d3 := hS5.cell 3
                have d4 := hS5.cell 4
                have z0 := hZ5.cell 0
                have z1 := hZ5.cell 1
                have z2 := hZ5.cell 2
                have z3 := hZ5.cell 3
                have z4 := hZ5.cell 4
                have f0 := hZ5.frozen 0
                have f1 := hZ5.frozen 1
                have f2 := hZ5.frozen 2
                have f3 := hZ5.frozen 3
                have f4 := hZ5.frozen 4
                simp only [List.getElem?_toArray, List.getElem?_cons_succ, List.getElem?_cons_zero] at d0 d1 d2 d3 d4 z0 z1 z2 z3 z4
                have hV := HV.out
                have hC := HC.out
                rw [Htk.out] at hV hC
                cases D
                · rw [if_neg (by simp)] at hV hC
                  rw [setV_nil] at hV
                  subst hV
                  subst hC
                  go_wp2
                  exact bodyPost_ret (v := .tuple #[.agg #[.int .i64 0, .int .u64 0, .int .u64 0, .int .u64 0, .int .u64 0], .int .i64 2]) (by simp [results, Tryd.results28, go_sem, z0, z1, z2, z3, z4]) rfl ⟨rfl, ((((hbz.setCell (Nat.le_refl _) _).setCell (Nat.le_refl _) _).setCell (Nat.le_refl _) _).setCell (Nat.le_refl _) _).setCell (Nat.le_refl _) _⟩
                · rw [if_pos rfl] at hV hC
                  unfold setV at hV
                  simp only [Hln.out, Hwd.out _ HD.out] at hV
                  subst hV
                  subst hC
                  go_wp2
                  exact bodyPost_ret (v := .tuple #[.agg #[.int .i64 (k : Nat), .int .u64 (wdN T 0 : Nat), .int .u64 (wdN T 1 : Nat), .int .u64 (wdN T 2 : Nat), .int .u64 (wdN T 3 : Nat)], .int .i64 0]) (by simp [results, Tryd.results28, go_sem, z0, z1, z2, z3, z4]) rfl ⟨rfl, ((((hbz.setCell (Nat.le_refl _) _).setCell (Nat.le_refl _) _).setCell (Nat.le_refl _) _).setCell (Nat.le_refl _) _).setCell (Nat.le_refl _) _⟩
      · have H := Lib.hid (show takeB n s.toList = ([], 2) by unfold takeB; rw [if_neg (by omega), if_pos (by rw [size_toList]; exact h2)])
        rw [H.out, setV_nil]
        have e32 : ((s.size : Int) == 32) = false := beq_eq_false_iff_ne.2 (by omega)
        go_enter Tryd.func28, Tryd.ntmps28
        go_wp2
        exact bodyPost_ret (v := .tuple #[.agg #[.int .i64 0, .int .u64 0, .int .u64 0, .int .u64 0, .int .u64 0], .int .i64 2]) (by simp [results, Tryd.results28, go_sem]) rfl ⟨rfl, (Below.refl _ _).alloc (Nat.le_refl _) _⟩

end Go.Proofs.YtaagdoaeefhleaaDoor
