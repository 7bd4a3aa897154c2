/-
  sha: words. sha: rounds one by one; a row of eight words. No function in sight.
-/
import Derived.Test.YtnhbkfefpkocaaaShB
import Derived.Test.YtnhbkfefpkocaaaP6
import Derived.Deep.DeepBigQuietO
namespace Go.Proofs.Ytnhbkfefpkocaaa
open Go.RowKit

/-- An array of 64 words, so many of them laid. -/
def row64 (W : List Nat) : Array Value := ((W ++ List.replicate (64 - W.length) 0).map fun k => Value.int .u32 (k : Nat)).toArray
theorem row64_size (W : List Nat) (h : W.length ≤ 64) : (row64 W).size = 64 := by unfold row64; simp; omega
theorem row64_get (W : List Nat) (i : Nat) (h : i < W.length) : (row64 W)[i]? = some (.int .u32 (W.getD i 0 : Nat)) := by
  unfold row64
  rw [List.getElem?_toArray, List.getElem?_map, List.getElem?_append_left h, List.getD_eq_getElem?_getD, List.getElem?_eq_getElem h]
  rfl
theorem row64_set (W : List Nat) (x : Nat) (h : W.length < 64) : (row64 W).setIfInBounds W.length (.int .u32 (x : Nat)) = row64 (W ++ [x]) := by
  unfold row64
  rw [List.setIfInBounds_toArray, ← List.map_set (f := fun k : Nat => Value.int .u32 (k : Nat))]
  congr 2
  rw [List.set_append_right _ _ (Nat.le_refl _), Nat.sub_self, List.append_assoc]
  congr 1
  rw [show 64 - W.length = (64 - (W ++ [x]).length) + 1 by simp; omega, List.replicate_succ]
  rfl
theorem row64_nil : row64 [] = #[.int .u32 0, .int .u32 0, .int .u32 0, .int .u32 0, .int .u32 0, .int .u32 0, .int .u32 0, .int .u32 0, .int .u32 0, .int .u32 0, .int .u32 0, .int .u32 0, .int .u32 0, .int .u32 0, .int .u32 0, .int .u32 0, .int .u32 0, .int .u32 0, .int .u32 0, .int .u32 0, .int .u32 0, .int .u32 0, .int .u32 0, .int .u32 0, .int .u32 0, .int .u32 0, .int .u32 0, .int .u32 0, .int .u32 0, .int .u32 0, .int .u32 0, .int .u32 0, .int .u32 0, .int .u32 0, .int .u32 0, .int .u32 0, .int .u32 0, .int .u32 0, .int .u32 0, .int .u32 0, .int .u32 0, .int .u32 0, .int .u32 0, .int .u32 0, .int .u32 0, .int .u32 0, .int .u32 0, .int .u32 0, .int .u32 0, .int .u32 0, .int .u32 0, .int .u32 0, .int .u32 0, .int .u32 0, .int .u32 0, .int .u32 0, .int .u32 0, .int .u32 0, .int .u32 0, .int .u32 0, .int .u32 0, .int .u32 0, .int .u32 0, .int .u32 0] := by kernel_rfl
theorem row64_one (W : List Nat) : (row64 W).all (·.oneCell') = true := by
  unfold row64
  rw [List.all_toArray, List.all_eq_true]
  intro x hx
  obtain ⟨k, _, rfl⟩ := List.mem_map.1 hx
  rfl
theorem first16_lt (l : List UInt8) : ∀ x ∈ first16 l, x < 4294967296 := by
  fun_induction first16 l with
  | case1 a b c d l ih =>
    intro x hx
    rcases List.mem_cons.1 hx with rfl | hx
    · have h0 := UInt8.toNat_lt a
      have h1 := UInt8.toNat_lt b
      have h2 := UInt8.toNat_lt c
      have h3 := UInt8.toNat_lt d
      unfold word4
      omega
    · exact ih x hx
  | case2 => intro x hx; cases hx
theorem nextW_lt (W : List Nat) : nextW W < 4294967296 := by unfold nextW; omega
theorem sched_ok {W : List Nat} (hW : ∀ x ∈ W, x < 4294967296) (h16 : W.length = 16) (n : Nat) (hn : n ≤ 48) : (∀ x ∈ schedW n W, x < 4294967296) ∧ (schedW n W).length = 16 + n := by
  have : ∀ (n : Nat) (W : List Nat), (∀ x ∈ W, x < 4294967296) → (∀ x ∈ schedW n W, x < 4294967296) ∧ (schedW n W).length = W.length + n := by
    intro n
    induction n with
    | zero => intro W h; exact ⟨h, rfl⟩
    | succ n ih =>
      intro W h
      have h2 := ih (W ++ [nextW W]) (by
        intro x hx
        rcases List.mem_append.1 hx with hx | hx
        · exact h x hx
        · simp at hx; subst hx; exact nextW_lt W)
      refine ⟨h2.1, ?_⟩
      show (schedW n (W ++ [nextW W])).length = _
      rw [h2.2, List.length_append]
      simp
      omega
  have h := this n W hW
  exact ⟨h.1, by rw [h.2, h16]⟩
theorem sched_succ (n : Nat) : ∀ W : List Nat, schedW (n + 1) W = schedW n W ++ [nextW (schedW n W)] := by
  induction n with
  | zero => intro W; rfl
  | succ n ih => intro W; exact ih (W ++ [nextW W])
theorem sched_get {W : List Nat} {i : Nat} (hW : ∀ x ∈ W, x < 4294967296) (h : i < W.length) : W.getD i 0 < 4294967296 := by
  rw [List.getD_eq_getElem?_getD, List.getElem?_eq_getElem h]
  exact hW _ (List.getElem_mem h)

theorem below_dnS {B : Nat} {w w' : World} (h : Below B w w') (n : Nat) : Below B w (w'.drewN n) := h.trans ⟨rfl, rfl, rfl, Nat.le_refl _, fun _ _ => rfl⟩
set_option maxRecDepth 20000 in
set_option maxHeartbeats 4000000 in
theorem words_any (b : List UInt8) (A : Option Addr) (n c : Nat) (hn : b.length = n) (h64 : 64 ≤ n) (w : World) (hr : Rd w A (byteVals b)) :
    Calls Try.prog 107 #[.slice A n c] w fun e w' => e = .returned (.agg (row64 (schedW 48 (first16 (b.take 64))))) ∧ Below w.heap.size w w' := by
  have Hn := Lib.hid hn
  have mixed : Try.prog.follows Departure.mixedOrders = true := by kernel_rfl
  have HR := Lib.hid hr
  clear hn hr
  go_enter Try.func107, Try.ntmps107
  go_wp2_with fail
  go_loopw [8] (fun vi wr => ∃ i : Nat, vi = .int .i64 i ∧ i ≤ 16 ∧ Bk wr (w.heap.size + 1) 140 (row64 (first16 (b.take (4 * i)))) ∧ (∃ z, Bk wr w.heap.size 140 z ∧ z.size = 64) ∧ Below w.heap.size w wr) (fun vi _ => 16 - (intOf vi).toNat)
  case atStart =>
    have h3 := ((Below.refl w.heap.size w).alloc (Nat.le_refl _) (.cells (row64 []) 140)).alloc (by simp) (.cells (row64 []) 140)
    have h1 := (Bk.new w 140 (row64 [])).alloc (.cells (row64 []) 140)
    have h2 := Bk.new (w.alloc (.cells (row64 []) 140)) 140 (row64 [])
    rw [World.size_alloc] at h2
    have hs := row64_size [] (by simp)
    have e : row64 (first16 (b.take (4 * 0))) = row64 [] := by simp [first16]
    rw [← row64_nil]
    generalize row64 [] = Z at *
    exact ⟨0, rfl, by omega, by rw [e]; exact h2, ⟨Z, h1, hs⟩, h3⟩
  case round =>
    obtain ⟨i, rfl, hi, hB, hZ, hb⟩ := hrel
    have hr := HR.out.below hb
    have HLN := Lib.hid (first16_len i b (by rw [Hn.out]; omega))
    by_cases hlt : (i : Int) < 16
    · obtain ⟨b0, e0⟩ : ∃ x, b[4 * i]? = some x := ⟨_, List.getElem?_eq_getElem (by rw [Hn.out]; omega)⟩
      obtain ⟨b1, e1⟩ : ∃ x, b[4 * i + 1]? = some x := ⟨_, List.getElem?_eq_getElem (by rw [Hn.out]; omega)⟩
      obtain ⟨b2, e2⟩ : ∃ x, b[4 * i + 2]? = some x := ⟨_, List.getElem?_eq_getElem (by rw [Hn.out]; omega)⟩
      obtain ⟨b3, e3⟩ : ∃ x, b[4 * i + 3]? = some x := ⟨_, List.getElem?_eq_getElem (by rw [Hn.out]; omega)⟩
      obtain ⟨g, o, rfl, hc⟩ := hr (by intro e; have := byteVals_length b; rw [e, Hn.out] at this; simp at this; omega)
      have hbv : ∀ (j : Nat) (x : UInt8), b[j]? = some x → (byteVals b)[j]? = some (Value.int .u8 (x.toNat : Int)) := fun j x h => by unfold byteVals; rw [List.getElem?_map, h]; rfl
      have q0 := hc _ _ (hbv _ _ e0)
      have q1 := hc _ _ (hbv _ _ e1)
      have q2 := hc _ _ (hbv _ _ e2)
      have q3 := hc _ _ (hbv _ _ e3)
      have HST := Lib.hid (first16_step i b b0 b1 b2 b3 e0 e1 e2 e3)
      have HWB := Lib.hid (word4_bits b0 b1 b2 b3)
      obtain ⟨old, ho⟩ : ∃ old, (row64 (first16 (b.take (4 * i))))[i]? = some old := ⟨_, Array.getElem?_eq_getElem (by rw [row64_size _ (by rw [HLN.out]; omega)]; omega)⟩
      have c0 := (hB.cell i).trans ho
      clear ho
      have f0 := hB.frozen i
      have m0 : IntKind.i64.wrap (4 * (i : Int)) = 4 * (i : Int) := by rw [IntKind.wrap_i64]; omega
      have m1 : IntKind.i64.wrap (4 * (i : Int) + 1) = 4 * (i : Int) + 1 := by rw [IntKind.wrap_i64]; omega
      have m2 : IntKind.i64.wrap (4 * (i : Int) + 2) = 4 * (i : Int) + 2 := by rw [IntKind.wrap_i64]; omega
      have m3 : IntKind.i64.wrap (4 * (i : Int) + 3) = 4 * (i : Int) + 3 := by rw [IntKind.wrap_i64]; omega
      have t0 : (4 * (i : Int)).toNat = 4 * i := by omega
      have t1 : (4 * (i : Int) + 1).toNat = 4 * i + 1 := by omega
      have t2 : (4 * (i : Int) + 2).toNat = 4 * i + 2 := by omega
      have t3 : (4 * (i : Int) + 3).toNat = 4 * i + 3 := by omega
      have l0 : (0 : Int) ≤ 4 * (i : Int) := by omega
      have l1 : (0 : Int) ≤ 4 * (i : Int) + 1 := by omega
      have l2 : (0 : Int) ≤ 4 * (i : Int) + 2 := by omega
      have l3 : (0 : Int) ≤ 4 * (i : Int) + 3 := by omega
      have n0 : 4 * (i : Int) < (n : Int) := by omega
      have n1 : 4 * (i : Int) + 1 < (n : Int) := by omega
      have n2 : 4 * (i : Int) + 2 < (n : Int) := by omega
      have n3 : 4 * (i : Int) + 3 < (n : Int) := by omega
      have g0 : (o + (4 * i + 1) : Nat) = o + 4 * i + 1 := by omega
      have g2 : (o + (4 * i + 2) : Nat) = o + 4 * i + 2 := by omega
      have g3 : (o + (4 * i + 3) : Nat) = o + 4 * i + 3 := by omega
      rw [← Nat.add_assoc] at q1 q2 q3
      clear e0 e1 e2 e3 hbv hc
      go_wp2_with fail
      go_big_region_o
      all_goals go_wp2_with fail
      have hB2 := hB.set_ i (.int .u32 (word4 b0.toNat b1.toNat b2.toNat b3.toNat : Nat))
      have hB3 : Bk (wr.setCell ⟨w.heap.size + 1, i, none⟩ (.int .u32 (word4 b0.toNat b1.toNat b2.toNat b3.toNat : Nat))) (w.heap.size + 1) 140 (row64 (first16 (b.take (4 * (i + 1))))) := by
        rw [HST.out, ← row64_set _ _ (by rw [HLN.out]; omega), HLN.out]
        exact hB2
      rw [HWB.out]
      go_round
      case rel => exact ⟨i + 1, by first | rfl | go_num, by omega, hB3, by obtain ⟨z, h1, h2⟩ := hZ; exact ⟨z, h1.far (by simp) _, h2⟩, (hb.setCell (p := ⟨w.heap.size + 1, i, none⟩) (by simp) _).drew⟩
      case measure => simp [intOf]; omega
    · obtain rfl : i = 16 := by omega
      have HB := Lib.hid hB
      have HWS := Lib.hid (sched_ok (W := first16 (b.take (4 * 16))) (first16_lt _) (by rw [HLN.out]) 0 (by omega))
      rw [show schedW 0 (first16 (b.take (4 * 16))) = first16 (b.take (4 * 16)) from rfl] at HWS
      go_wp2_with fail
      go_loopw [5] (fun vi wr2 => ∃ k : Nat, vi = .int .i64 (k : Nat) ∧ 16 ≤ k ∧ k ≤ 64 ∧ Hid (Bk wr2 (w.heap.size + 1) 140 (row64 (schedW (k - 16) (first16 (b.take 64))))) ∧ (∃ z, Bk wr2 w.heap.size 140 z ∧ z.size = 64) ∧ Below w.heap.size w wr2) (fun vi _ => 64 - (intOf vi).toNat)
      case atStart => exact ⟨16, rfl, by omega, by omega, HB, hZ, hb⟩
      case round =>
        clear HB hB hZ hb hr
        obtain ⟨k, rfl, hk1, hk2, HB, hZ, hb⟩ := hrel
        by_cases hlt : (k : Int) < 64
        · obtain ⟨hWl, hWn⟩ := sched_ok (W := first16 (b.take 64)) (first16_lt _) HLN.out (k - 16) (by omega)
          obtain ⟨W, hW⟩ : ∃ W, schedW (k - 16) (first16 (b.take 64)) = W := ⟨_, rfl⟩
          have HNX := Lib.hid (show schedW (k + 1 - 16) (first16 (b.take 64)) = W ++ [nextW W] by rw [show k + 1 - 16 = (k - 16) + 1 by omega, sched_succ, hW])
          rw [hW] at HB hWl hWn
          have HK : W.length = k := by omega
          obtain ⟨a16, h16⟩ : ∃ a, k = a + 16 := ⟨k - 16, by omega⟩
          obtain ⟨a15, h15⟩ : ∃ a, k = a + 15 := ⟨k - 15, by omega⟩
          obtain ⟨a7, h7⟩ : ∃ a, k = a + 7 := ⟨k - 7, by omega⟩
          obtain ⟨a2, h2⟩ : ∃ a, k = a + 2 := ⟨k - 2, by omega⟩
          have m16 : IntKind.i64.wrap ((k : Int) - 16) = (a16 : Int) := by rw [IntKind.wrap_i64]; omega
          have m15 : IntKind.i64.wrap ((k : Int) - 15) = (a15 : Int) := by rw [IntKind.wrap_i64]; omega
          have m7 : IntKind.i64.wrap ((k : Int) - 7) = (a7 : Int) := by rw [IntKind.wrap_i64]; omega
          have m2 : IntKind.i64.wrap ((k : Int) - 2) = (a2 : Int) := by rw [IntKind.wrap_i64]; omega
          obtain ⟨x16, hx16⟩ : ∃ x, W.getD a16 0 = x := ⟨_, rfl⟩
          obtain ⟨x15, hx15⟩ : ∃ x, W.getD a15 0 = x := ⟨_, rfl⟩
          obtain ⟨x7, hx7⟩ : ∃ x, W.getD a7 0 = x := ⟨_, rfl⟩
          obtain ⟨x2, hx2⟩ : ∃ x, W.getD a2 0 = x := ⟨_, rfl⟩
          have c16 := (HB.out.cell a16).trans (row64_get W a16 (by omega))
          have c15 := (HB.out.cell a15).trans (row64_get W a15 (by omega))
          have c7 := (HB.out.cell a7).trans (row64_get W a7 (by omega))
          have c2 := (HB.out.cell a2).trans (row64_get W a2 (by omega))
          rw [hx16] at c16
          rw [hx15] at c15
          rw [hx7] at c7
          rw [hx2] at c2
          obtain ⟨old, ho⟩ : ∃ old, (row64 W)[k]? = some old := ⟨_, Array.getElem?_eq_getElem (by rw [row64_size _ (by omega)]; omega)⟩
          have c0 := (HB.out.cell k).trans ho
          have f0 := HB.out.frozen k
          have y16 : x16 < 4294967296 := by rw [← hx16]; exact sched_get hWl (by omega)
          have y15 : x15 < 4294967296 := by rw [← hx15]; exact sched_get hWl (by omega)
          have y7 : x7 < 4294967296 := by rw [← hx7]; exact sched_get hWl (by omega)
          have y2 : x2 < 4294967296 := by rw [← hx2]; exact sched_get hWl (by omega)
          have HNW : Hid (nextW W = (x16 + s0W x15 + x7 + s1W x2) % 4294967296) := Lib.hid (by
            unfold nextW
            rw [show W.length - 16 = a16 by omega, show W.length - 15 = a15 by omega, show W.length - 7 = a7 by omega, show W.length - 2 = a2 by omega, hx16, hx15, hx7, hx2])
          obtain ⟨r1, hr1⟩ : ∃ r, rot x15 7 = r := ⟨_, rfl⟩
          obtain ⟨r2, hr2⟩ : ∃ r, rot x15 18 = r := ⟨_, rfl⟩
          obtain ⟨r3, hr3⟩ : ∃ r, rot x2 17 = r := ⟨_, rfl⟩
          obtain ⟨r4, hr4⟩ : ∃ r, rot x2 19 = r := ⟨_, rfl⟩
          have T1 : Hid (∀ w', Calls Try.prog 108 #[.int .u32 x15, .int .i64 7] w' fun e w'' => e = .returned (.int .u32 (r1 : Nat)) ∧ ∃ m, w'' = w'.drewN m) := Lib.hid fun w' => by rw [← hr1]; exact turn_any x15 7 w' y15 (by omega)
          have T2 : Hid (∀ w', Calls Try.prog 108 #[.int .u32 x15, .int .i64 18] w' fun e w'' => e = .returned (.int .u32 (r2 : Nat)) ∧ ∃ m, w'' = w'.drewN m) := Lib.hid fun w' => by rw [← hr2]; exact turn_any x15 18 w' y15 (by omega)
          have T3 : Hid (∀ w', Calls Try.prog 108 #[.int .u32 x2, .int .i64 17] w' fun e w'' => e = .returned (.int .u32 (r3 : Nat)) ∧ ∃ m, w'' = w'.drewN m) := Lib.hid fun w' => by rw [← hr3]; exact turn_any x2 17 w' y2 (by omega)
          have T4 : Hid (∀ w', Calls Try.prog 108 #[.int .u32 x2, .int .i64 19] w' fun e w'' => e = .returned (.int .u32 (r4 : Nat)) ∧ ∃ m, w'' = w'.drewN m) := Lib.hid fun w' => by rw [← hr4]; exact turn_any x2 19 w' y2 (by omega)
          obtain ⟨s0, hs0⟩ : ∃ s, s0W x15 = s := ⟨_, rfl⟩
          obtain ⟨s1, hs1⟩ : ∃ s, s1W x2 = s := ⟨_, rfl⟩
          have v1 : r1 < 4294967296 := by rw [← hr1]; exact rot_lt _ _ y15
          have v2 : r2 < 4294967296 := by rw [← hr2]; exact rot_lt _ _ y15
          have v3 : r3 < 4294967296 := by rw [← hr3]; exact rot_lt _ _ y2
          have v4 : r4 < 4294967296 := by rw [← hr4]; exact rot_lt _ _ y2
          have e0 : bits .xor .u32 (bits .xor .u32 (r1 : Int) (r2 : Int)) ((x15 : Int) / 8) = (s0 : Int) := by
            rw [xor32 _ _ v1 v2, show (x15 : Int) / 8 = ((x15 / 8 : Nat) : Int) by omega, xor32 _ _ (Nat.xor_lt_two_pow (n := 32) v1 v2) (by omega), ← hs0]
            unfold s0W
            rw [hr1, hr2]
          have e1 : bits .xor .u32 (bits .xor .u32 (r3 : Int) (r4 : Int)) ((x2 : Int) / 1024) = (s1 : Int) := by
            rw [xor32 _ _ v3 v4, show (x2 : Int) / 1024 = ((x2 / 1024 : Nat) : Int) by omega, xor32 _ _ (Nat.xor_lt_two_pow (n := 32) v3 v4) (by omega), ← hs1]
            unfold s1W
            rw [hr3, hr4]
          rw [hs0, hs1] at HNW
          have HA := Lib.hid (And.intro HK (And.intro h16 (And.intro h15 (And.intro h7 h2))))
          clear hr1 hr2 hr3 hr4 hs0 hs1 v1 v2 v3 v4 y16 y15 y7 y2 hx16 hx15 hx7 hx2 ho hW hWl hWn HK h16 h15 h7 h2
          have l16 : (a16 : Int) < 64 := by have := HA.out; omega
          have l15 : (a15 : Int) < 64 := by have := HA.out; omega
          have l7 : (a7 : Int) < 64 := by have := HA.out; omega
          have l2 : (a2 : Int) < 64 := by have := HA.out; omega
          go_wp2_with fail
          go_quiet (first | (go_at_call 108; with_reducible refine Calls.quiet_of (T1.out _)) | (go_at_call 108; with_reducible refine Calls.quiet_of (T2.out _)))
          have hB3 : Bk (wr.drewN nq) (w.heap.size + 1) 140 (row64 W) := HB.out
          have hZ3 : ∃ z, Bk (wr.drewN nq) w.heap.size 140 z ∧ z.size = 64 := hZ
          have hb3 := below_dnS hb nq
          have HP3 := Lib.hid (And.intro hB3 (And.intro hZ3 hb3))
          have c2' : (wr.drewN nq).cell? ⟨w.heap.size + 1, a2, none⟩ = some (.int .u32 (x2 : Nat)) := c2
          have c16' : (wr.drewN nq).cell? ⟨w.heap.size + 1, a16, none⟩ = some (.int .u32 (x16 : Nat)) := c16
          have c7' : (wr.drewN nq).cell? ⟨w.heap.size + 1, a7, none⟩ = some (.int .u32 (x7 : Nat)) := c7
          have c0' : (wr.drewN nq).cell? ⟨w.heap.size + 1, k, none⟩ = some old := c0
          have f0' : (wr.drewN nq).frozen? ⟨w.heap.size + 1, k, none⟩ = false := f0
          clear hB3 hZ3 hb3 c2 c16 c7 c0 f0 c15 hZ hb HB
          generalize wr.drewN nq = wa at *
          go_wp2_with fail
          go_quiet (first | (go_at_call 108; with_reducible refine Calls.quiet_of (T3.out _)) | (go_at_call 108; with_reducible refine Calls.quiet_of (T4.out _)))
          have hB3 : Bk (wa.drewN nq) (w.heap.size + 1) 140 (row64 W) := HP3.out.1
          have hZ3 : ∃ z, Bk (wa.drewN nq) w.heap.size 140 z ∧ z.size = 64 := HP3.out.2.1
          have hb3 := below_dnS HP3.out.2.2 nq
          have HP4 := Lib.hid (And.intro hB3 (And.intro hZ3 hb3))
          have c16 : (wa.drewN nq).cell? ⟨w.heap.size + 1, a16, none⟩ = some (.int .u32 (x16 : Nat)) := c16'
          have c7 : (wa.drewN nq).cell? ⟨w.heap.size + 1, a7, none⟩ = some (.int .u32 (x7 : Nat)) := c7'
          have c0 : (wa.drewN nq).cell? ⟨w.heap.size + 1, k, none⟩ = some old := c0'
          have f0 : (wa.drewN nq).frozen? ⟨w.heap.size + 1, k, none⟩ = false := f0'
          clear hB3 hZ3 hb3 c2' c16' c7' c0' f0' HP3
          generalize wa.drewN nq = wb at *
          go_wp2_with fail
          go_big_region_o
          all_goals go_wp2_with fail
          have hB5 : Bk (wb.setCell ⟨w.heap.size + 1, k, none⟩ (.int .u32 (((x16 : Int) + s0 + x7 + s1) % 4294967296))) (w.heap.size + 1) 140 (row64 (schedW (k + 1 - 16) (first16 (b.take 64)))) := by
            have h := HP4.out.1.set_ k (.int .u32 (nextW W : Nat))
            rw [HNX.out, ← row64_set _ _ (by have := HA.out; omega), HA.out.1]
            rw [show (((x16 : Int) + s0 + x7 + s1) % 4294967296) = (nextW W : Nat) by rw [HNW.out]; omega]
            exact h
          have hZ5 : ∃ z, Bk (wb.setCell ⟨w.heap.size + 1, k, none⟩ (.int .u32 (((x16 : Int) + s0 + x7 + s1) % 4294967296))) w.heap.size 140 z ∧ z.size = 64 := by
            obtain ⟨z, h1, h2⟩ := HP4.out.2.1
            exact ⟨z, h1.far (by simp) _, h2⟩
          go_round
          case rel => exact ⟨k + 1, by first | rfl | go_num, by omega, by omega, Lib.hid hB5, hZ5, (HP4.out.2.2.setCell (p := ⟨w.heap.size + 1, k, none⟩) (by simp) _).drew⟩
          case measure => simp [intOf]; omega
        · obtain rfl : k = 64 := by omega
          obtain ⟨z, hz1, hz2⟩ := hZ
          have hB := HB.out
          have hsz := row64_size (schedW (64 - 16) (first16 (b.take 64))) (by rw [(sched_ok (first16_lt _) HLN.out (64 - 16) (by omega)).2]; omega)
          have hon := row64_one (schedW (64 - 16) (first16 (b.take 64)))
          rw [show 64 - 16 = 48 from rfl] at hB hsz hon
          obtain ⟨C, hC⟩ : ∃ C, row64 (schedW 48 (first16 (b.take 64))) = C := ⟨_, rfl⟩
          rw [hC] at hB hsz hon
          have HCE := Lib.hid hC
          clear hC
          have hi : (Try.prog.info? 140).map (·.size) = some C.size := by rw [hsz]; exact k_info
          have HI := Lib.hid hi
          have HZ2 := Lib.hid (show z.size = C.size by rw [hz2, hsz])
          have HON := Lib.hid hon
          have HZ1 := Lib.hid hz1
          have HB1 := Lib.hid hB
          have HRES := Lib.hid (setRow_heap wr w.heap.size z C 140 (0, 0) hz1)
          clear hi hz2 hsz hon hz1 hB HB
          have hg1 : wr.heap[w.heap.size + 1]? = some (.cells C 140 (0, 0)) := HB1.out
          have hg2 : wr.heap[w.heap.size]? = some (.cells z 140 (0, 0)) := HZ1.out
          go_wp2_with (first | (refine wpList_load_row rfl 140 _ rfl (w.heap.size + 1) rfl 140 _ (0, 0) _ hg1 Try.underlying140 rfl HI.out ?_) | (refine wpList_store_row rfl 140 _ _ rfl w.heap.size C rfl rfl 140 z hg2 HI.out HZ2.out HON.out ?_))
          rw [HCE.out]
          refine bodyPost_ret (results_cell_row Try.results107 _ _ w.heap.size 140 C (0, 0) _ rfl HRES.out Try.underlying140 rfl HI.out) rfl ⟨rfl, ?_⟩
          refine hb.trans ⟨rfl, rfl, rfl, by simp [World.setRow], fun k hk => ?_⟩
          simp only [World.setRow]
          rw [Array.getElem?_modify, if_neg (by omega)]
end Go.Proofs.Ytnhbkfefpkocaaa
namespace Go.Proofs.Ytnhbkfefpkocaaa
open Go.RowKit

def row8 (V : List Nat) : Array Value := (V.map fun k => Value.int .u32 (k : Nat)).toArray
/-- Eight words. -/
def Wd8 (V : List Nat) : Prop := V.length = 8 ∧ ∀ x ∈ V, x < 4294967296
theorem eight {α : Type} {l : List α} (h : l.length = 8) : ∃ a b c d e f g i, l = [a, b, c, d, e, f, g, i] := by
  match l, h with
  | [a, b, c, d, e, f, g, i], _ => exact ⟨a, b, c, d, e, f, g, i, rfl⟩
theorem oneW_lt (e f g h k w : Nat) : oneW e f g h k w < 4294967296 := by unfold oneW; omega
theorem twoW_lt (a b c : Nat) : twoW a b c < 4294967296 := by unfold twoW; omega
theorem rndW_ok {V : List Nat} (h : Wd8 V) (k w : Nat) : Wd8 (rndW V k w) := by
  obtain ⟨a, b, c, d, e, f, g, i, rfl⟩ := eight h.1
  refine ⟨rfl, fun x hx => ?_⟩
  have hh := h.2
  simp only [rndW, List.mem_cons, List.not_mem_nil, or_false] at hx
  rcases hx with rfl | rfl | rfl | rfl | rfl | rfl | rfl | rfl
  · omega
  · exact hh _ (by simp)
  · exact hh _ (by simp)
  · exact hh _ (by simp)
  · omega
  · exact hh _ (by simp)
  · exact hh _ (by simp)
  · exact hh _ (by simp)
theorem rnds_step : ∀ (i : Nat) (V K W : List Nat), i < K.length → i < W.length → rndsW V (K.take (i + 1)) (W.take (i + 1)) = rndW (rndsW V (K.take i) (W.take i)) (K.getD i 0) (W.getD i 0)
  | 0, V, k :: K, w :: W, _, _ => by simp [rndsW]
  | i + 1, V, k :: K, w :: W, hk, hw => by
    simp only [List.length_cons] at hk hw
    have ih := rnds_step i (rndW V k w) K W (by omega) (by omega)
    simp only [List.take_succ_cons, rndsW, List.getD_cons_succ]
    exact ih
  | _, _, [], _, hk, _ => by simp at hk
  | _, _, _ :: _, [], _, hw => by simp at hw
theorem rnds_ok : ∀ (K W V : List Nat), Wd8 V → Wd8 (rndsW V K W)
  | [], W, V, h => by cases W <;> simpa [rndsW] using h
  | k :: K, [], V, h => by simpa [rndsW] using h
  | k :: K, w :: W, V, h => rnds_ok K W (rndW V k w) (rndW_ok h k w)
theorem one_facts (e f g h k w r1 r2 r3 : Nat) (he : e < 4294967296) (hf : f < 4294967296) (hg : g < 4294967296) (h1 : rot e 6 = r1) (h2 : rot e 11 = r2) (h3 : rot e 25 = r3) :
    ∃ x1 x2 x3 x4 x5 x6 p1 p2 p3 : Nat, bits .xor .u32 (r1 : Int) (r2 : Int) = (x1 : Int) ∧ bits .xor .u32 (x1 : Int) (r3 : Int) = (x2 : Int) ∧ bits .and .u32 (e : Int) (f : Int) = (x3 : Int) ∧
      bits .xor .u32 (if IntKind.u32.signed = true then -1 else IntKind.u32.max) (e : Int) = (x4 : Int) ∧ bits .and .u32 (x4 : Int) (g : Int) = (x5 : Int) ∧ bits .xor .u32 (x3 : Int) (x5 : Int) = (x6 : Int) ∧
      IntKind.u32.wrap ((h : Int) + x2) = (p1 : Int) ∧ IntKind.u32.wrap ((p1 : Int) + x6) = (p2 : Int) ∧ IntKind.u32.wrap ((p2 : Int) + k) = (p3 : Int) ∧ IntKind.u32.wrap ((p3 : Int) + w) = (oneW e f g h k w : Nat) := by
  have l1 : r1 < 4294967296 := by rw [← h1]; exact rot_lt _ _ he
  have l2 : r2 < 4294967296 := by rw [← h2]; exact rot_lt _ _ he
  have l3 : r3 < 4294967296 := by rw [← h3]; exact rot_lt _ _ he
  have l12 := Nat.xor_lt_two_pow (n := 32) l1 l2
  have l4 : 4294967295 - e < 4294967296 := by omega
  have e4 : bits .xor .u32 (if IntKind.u32.signed = true then -1 else IntKind.u32.max) (e : Int) = ((4294967295 - e : Nat) : Int) := by
    rw [show (if IntKind.u32.signed = true then (-1 : Int) else IntKind.u32.max) = ((4294967295 : Nat) : Int) by decide, xor32 _ _ (by omega) he]
    congr 1
    exact Nat.eq_of_testBit_eq fun i => by
      rw [Nat.testBit_xor, show 4294967295 = 2 ^ 32 - 1 by decide, Nat.testBit_two_pow_sub_one, show 2 ^ 32 - 1 - e = 2 ^ 32 - (e + 1) by omega, Nat.testBit_two_pow_sub_succ (by omega)]
      by_cases hi : i < 32
      · simp [hi]
      · simp [hi, Nat.testBit_lt_two_pow (x := e) (i := i) (by have := Nat.pow_le_pow_right (n := 2) (by omega) (show 32 ≤ i by omega); omega)]
  have l5 : (4294967295 - e) &&& g < 4294967296 := Nat.and_lt_two_pow (n := 32) _ hg
  have l6 : e &&& f < 4294967296 := Nat.and_lt_two_pow (n := 32) _ hf
  refine ⟨r1 ^^^ r2, r1 ^^^ r2 ^^^ r3, e &&& f, 4294967295 - e, (4294967295 - e) &&& g, (e &&& f) ^^^ ((4294967295 - e) &&& g), (h + (r1 ^^^ r2 ^^^ r3)) % 4294967296, (h + (r1 ^^^ r2 ^^^ r3) + ((e &&& f) ^^^ ((4294967295 - e) &&& g))) % 4294967296, (h + (r1 ^^^ r2 ^^^ r3) + ((e &&& f) ^^^ ((4294967295 - e) &&& g)) + k) % 4294967296,
    xor32 _ _ l1 l2, xor32 _ _ l12 l3, and32 _ _ he hf, e4, and32 _ _ l4 hg, xor32 _ _ l6 l5, ?_, ?_, ?_, ?_⟩
  · rw [IntKind.wrap_u32]; omega
  · rw [IntKind.wrap_u32]; omega
  · rw [IntKind.wrap_u32]; omega
  · rw [IntKind.wrap_u32]; unfold oneW; rw [h1, h2, h3]; omega
theorem two_facts (a b c r1 r2 r3 : Nat) (ha : a < 4294967296) (hb : b < 4294967296) (hc : c < 4294967296) (h1 : rot a 2 = r1) (h2 : rot a 13 = r2) (h3 : rot a 22 = r3) :
    ∃ x1 x2 x3 x4 x5 x6 x7 : Nat, bits .xor .u32 (r1 : Int) (r2 : Int) = (x1 : Int) ∧ bits .xor .u32 (x1 : Int) (r3 : Int) = (x2 : Int) ∧ bits .and .u32 (a : Int) (b : Int) = (x3 : Int) ∧
      bits .and .u32 (a : Int) (c : Int) = (x4 : Int) ∧ bits .xor .u32 (x3 : Int) (x4 : Int) = (x5 : Int) ∧ bits .and .u32 (b : Int) (c : Int) = (x6 : Int) ∧ bits .xor .u32 (x5 : Int) (x6 : Int) = (x7 : Int) ∧
      IntKind.u32.wrap ((x2 : Int) + x7) = (twoW a b c : Nat) := by
  have l1 : r1 < 4294967296 := by rw [← h1]; exact rot_lt _ _ ha
  have l2 : r2 < 4294967296 := by rw [← h2]; exact rot_lt _ _ ha
  have l3 : r3 < 4294967296 := by rw [← h3]; exact rot_lt _ _ ha
  have l12 := Nat.xor_lt_two_pow (n := 32) l1 l2
  have m1 : a &&& b < 4294967296 := Nat.and_lt_two_pow (n := 32) _ hb
  have m2 : a &&& c < 4294967296 := Nat.and_lt_two_pow (n := 32) _ hc
  have m3 : b &&& c < 4294967296 := Nat.and_lt_two_pow (n := 32) _ hc
  have m12 := Nat.xor_lt_two_pow (n := 32) m1 m2
  refine ⟨r1 ^^^ r2, r1 ^^^ r2 ^^^ r3, a &&& b, a &&& c, (a &&& b) ^^^ (a &&& c), b &&& c, (a &&& b) ^^^ (a &&& c) ^^^ (b &&& c), xor32 _ _ l1 l2, xor32 _ _ l12 l3, and32 _ _ ha hb, and32 _ _ ha hc, xor32 _ _ m1 m2, and32 _ _ hb hc, xor32 _ _ m12 m3, ?_⟩
  rw [IntKind.wrap_u32]; unfold twoW; rw [h1, h2, h3]; omega
/-- The first k words of H with those of V added. -/
def addT (H V : List Nat) (k : Nat) : List Nat := (List.zipWith (fun x y => (x + y) % 4294967296) H V).take k ++ H.drop k
theorem addT_zero (H V : List Nat) : addT H V 0 = H := by simp [addT]
theorem addT_all (H V : List Nat) (n : Nat) (h1 : H.length = n) (h2 : V.length = n) : addT H V n = List.zipWith (fun x y => (x + y) % 4294967296) H V := by
  unfold addT
  rw [List.take_of_length_le (by simp; omega), List.drop_eq_nil_of_le (by omega), List.append_nil]
theorem addT_len (H V : List Nat) (k n : Nat) (h1 : H.length = n) (h2 : V.length = n) : (addT H V k).length = n := by
  unfold addT; simp; omega
theorem addT_get : ∀ (H V : List Nat) (k : Nat), k < H.length → k < V.length → (addT H V k).getD k 0 = H.getD k 0 ∧ (addT H V k).set k ((H.getD k 0 + V.getD k 0) % 4294967296) = addT H V (k + 1)
  | h :: H, v :: V, 0, _, _ => by simp [addT]
  | h :: H, v :: V, k + 1, hk, hv => by
    simp only [List.length_cons] at hk hv
    have ih := addT_get H V k (by omega) (by omega)
    have e : ∀ j, addT (h :: H) (v :: V) (j + 1) = (h + v) % 4294967296 :: addT H V j := fun j => by simp [addT]
    rw [e, e]
    simpa using ih
  | [], _, _, hk, _ => by simp at hk
  | _ :: _, [], _, _, hv => by simp at hv
theorem row8_get (V : List Nat) (k : Nat) (h : k < V.length) : (row8 V)[k]? = some (.int .u32 (V.getD k 0 : Nat)) := by
  unfold row8
  simp [h]
theorem row8_set (V : List Nat) (k x : Nat) : (row8 V).setIfInBounds k (.int .u32 (x : Nat)) = row8 (V.set k x) := by
  unfold row8
  simp [List.map_set]
theorem row8_size (V : List Nat) : (row8 V).size = V.length := by simp [row8]
theorem row8_one (W : List Nat) : (row8 W).all (·.oneCell') = true := by
  unfold row8
  rw [List.all_toArray, List.all_eq_true]
  intro x hx
  obtain ⟨k, _, rfl⟩ := List.mem_map.1 hx
  rfl
theorem zip8_ok {H V : List Nat} (h1 : H.length = 8) (h2 : V.length = 8) : Wd8 (List.zipWith (fun x y => (x + y) % 4294967296) H V) := by
  obtain ⟨a, b, c, d, e, f, g, i, rfl⟩ := eight h1
  obtain ⟨a', b', c', d', e', f', g', i', rfl⟩ := eight h2
  refine ⟨rfl, fun x hx => ?_⟩
  simp only [List.zipWith_cons_cons, List.zipWith_nil_left, List.mem_cons, List.not_mem_nil, or_false] at hx
  omega
end Go.Proofs.Ytnhbkfefpkocaaa
