/-
  The walk of Ack.
-/
import Derived.Test.YtapanifgnpklpaaWinB
import Derived.Test.YtapanifgnpklpaaBitL
import Derived.Deep.Cut
namespace Go.Proofs.Ytapanifgnpklpaa
open Go.RowKit

theorem held6 {wr w w1 : World} (hb : Below w.heap.size w w1) {a0 a1 a2 a3 a4 a5 : Addr} {v0 v1 v2 v3 v4 v5 : Value}
    (h : Below wr.heap.size wr w ∧ w.cell? a0 = some v0 ∧ w.cell? a1 = some v1 ∧ w.cell? a2 = some v2 ∧ w.cell? a3 = some v3 ∧ w.cell? a4 = some v4 ∧ w.cell? a5 = some v5) :
    Below wr.heap.size wr w1 ∧ w1.cell? a0 = some v0 ∧ w1.cell? a1 = some v1 ∧ w1.cell? a2 = some v2 ∧ w1.cell? a3 = some v3 ∧ w1.cell? a4 = some v4 ∧ w1.cell? a5 = some v5 := by
  have k : ∀ {a : Addr} {v : Value}, w.cell? a = some v → w1.cell? a = some v := fun h => (hb.cell (World.block_lt_of_cell? w _ h)).trans h
  exact ⟨bl h.1 hb, k h.2.1, k h.2.2.1, k h.2.2.2.1, k h.2.2.2.2.1, k h.2.2.2.2.2.1, k h.2.2.2.2.2.2⟩
theorem held10 {wr w w1 : World} (hb : Below w.heap.size w w1) {a0 a1 a2 a3 a4 a5 a6 a7 a8 a9 : Addr} {v0 v1 v2 v3 v4 v5 v6 v7 v8 v9 : Value}
    (h : Below wr.heap.size wr w ∧ w.cell? a0 = some v0 ∧ w.cell? a1 = some v1 ∧ w.cell? a2 = some v2 ∧ w.cell? a3 = some v3 ∧ w.cell? a4 = some v4 ∧ w.cell? a5 = some v5 ∧ w.cell? a6 = some v6 ∧ w.cell? a7 = some v7 ∧ w.cell? a8 = some v8 ∧ w.cell? a9 = some v9) :
    Below wr.heap.size wr w1 ∧ w1.cell? a0 = some v0 ∧ w1.cell? a1 = some v1 ∧ w1.cell? a2 = some v2 ∧ w1.cell? a3 = some v3 ∧ w1.cell? a4 = some v4 ∧ w1.cell? a5 = some v5 ∧ w1.cell? a6 = some v6 ∧ w1.cell? a7 = some v7 ∧ w1.cell? a8 = some v8 ∧ w1.cell? a9 = some v9 := by
  have k : ∀ {a : Addr} {v : Value}, w.cell? a = some v → w1.cell? a = some v := fun h => (hb.cell (World.block_lt_of_cell? w _ h)).trans h
  exact ⟨bl h.1 hb, k h.2.1, k h.2.2.1, k h.2.2.2.1, k h.2.2.2.2.1, k h.2.2.2.2.2.1, k h.2.2.2.2.2.2.1, k h.2.2.2.2.2.2.2.1, k h.2.2.2.2.2.2.2.2.1, k h.2.2.2.2.2.2.2.2.2.1, k h.2.2.2.2.2.2.2.2.2.2⟩
theorem or_is (L M O : List Bool) (h : orB L M = O) (w : World) (hL : L.length ≤ 256) (hM : M.length ≤ 256) : Calls Try.prog 30 #[.agg #[.int .i64 (L.length : Nat), .int .u64 (wdN L 0 : Nat), .int .u64 (wdN L 1 : Nat), .int .u64 (wdN L 2 : Nat), .int .u64 (wdN L 3 : Nat)], .agg #[.int .i64 (M.length : Nat), .int .u64 (wdN M 0 : Nat), .int .u64 (wdN M 1 : Nat), .int .u64 (wdN M 2 : Nat), .int .u64 (wdN M 3 : Nat)]] w fun e w' => e = .returned (.agg #[.int .i64 (O.length : Nat), .int .u64 (wdN O 0 : Nat), .int .u64 (wdN O 1 : Nat), .int .u64 (wdN O 2 : Nat), .int .u64 (wdN O 3 : Nat)]) ∧ Below w.heap.size w w' := by subst h; exact or_any L M w hL hM
theorem list_is (L : List Bool) (X : List Int) (h : listR L 0 = X) (w : World) (hL : L.length ≤ 256) : Calls Try.prog 25 #[.agg #[.int .i64 (L.length : Nat), .int .u64 (wdN L 0 : Nat), .int .u64 (wdN L 1 : Nat), .int .u64 (wdN L 2 : Nat), .int .u64 (wdN L 3 : Nat)]] w (RetS w X.length (intVals X)) := by subst h; exact list_any L w hL
theorem without_is (L : List Bool) (i : Int) (M : List Bool) (h : setB L i false = M) (w : World) (hL : L.length ≤ 256) : Calls Try.prog 32 #[.agg #[.int .i64 (L.length : Nat), .int .u64 (wdN L 0 : Nat), .int .u64 (wdN L 1 : Nat), .int .u64 (wdN L 2 : Nat), .int .u64 (wdN L 3 : Nat)], .int .i64 i] w fun e w' => e = .returned (.agg #[.int .i64 (M.length : Nat), .int .u64 (wdN M 0 : Nat), .int .u64 (wdN M 1 : Nat), .int .u64 (wdN M 2 : Nat), .int .u64 (wdN M 3 : Nat)]) ∧ Below w.heap.size w w' := by subst h; exact without_any L i w hL

/-- What Ack does to what is in flight, and to the timers. -/
def offS (S : List Bool) (X : List Int) : List Bool := X.foldl (fun S i => setB S i false) S
def offT (T : Nat → Int × Int) (X : List Int) : Nat → Int × Int := X.foldl (fun T i => upd T i.toNat (0, 0)) T
theorem offS_length (S : List Bool) (X : List Int) : (offS S X).length = S.length := by
  unfold offS
  induction X generalizing S with
  | nil => rfl
  | cons x xs ih => rw [List.foldl_cons, ih, setB_length]
theorem offS_snoc (S : List Bool) (X : List Int) (k : Nat) (h : k < X.length) : offS S (X.take (k + 1)) = setB (offS S (X.take k)) X[k] false := by
  unfold offS; rw [List.take_succ_eq_append_getElem h, List.foldl_append]; rfl
theorem offT_snoc (T : Nat → Int × Int) (X : List Int) (k : Nat) (h : k < X.length) : offT T (X.take (k + 1)) = upd (offT T (X.take k)) (X[k]).toNat (0, 0) := by
  unfold offT; rw [List.take_succ_eq_append_getElem h, List.foldl_append]; rfl
theorem listR_range (L : List Bool) (x : Int) (h : x ∈ listR L 0) : ∃ j : Nat, x = j ∧ j < L.length := by
  have aux : ∀ (m k : Nat), L.length - k ≤ m → x ∈ listR L k → ∃ j : Nat, x = j ∧ j < L.length := by
    intro m
    induction m with
    | zero => intro k hk h; rw [listR_end L k (by omega)] at h; cases h
    | succ m ih =>
      intro k hk h
      by_cases hlt : k < L.length
      · by_cases hv : L.getD k false = true
        · rw [listR_hit L k hlt hv] at h
          rcases List.mem_cons.1 h with rfl | h
          · exact ⟨k, rfl, hlt⟩
          · exact ih (k + 1) (by omega) h
        · rw [listR_miss L k hlt hv] at h
          exact ih (k + 1) (by omega) h
      · rw [listR_end L k (by omega)] at h; cases h
  exact aux _ 0 (Nat.le_refl _) h

/-- What holds at each round of Ack. -/
def AckRel (w : World) (g : Nat) (n : Int) (A S : List Bool) (T : Nat → Int × Int) (X : List Int) (k : Nat) (wr : World) : Prop :=
  WinAt wr g n A (offS S (X.take k)) (offT T (X.take k)) ∧ (offS S (X.take k)).length ≤ 256 ∧ w.grownBy wr (some g)

theorem ack_none (M : List Bool) (w : World) : Calls Try.prog 17 #[.pointer none, .agg #[.int .i64 (M.length : Nat), .int .u64 (wdN M 0 : Nat), .int .u64 (wdN M 1 : Nat), .int .u64 (wdN M 2 : Nat), .int .u64 (wdN M 3 : Nat)]] w fun e w' => e = .returned (.int .i64 8) ∧ Below w.heap.size w w' := by
  have hb := (Below.refl w.heap.size w).alloc (Nat.le_refl _) (.cells #[.int .i64 (M.length : Nat), .int .u64 (wdN M 0 : Nat), .int .u64 (wdN M 1 : Nat), .int .u64 (wdN M 2 : Nat), .int .u64 (wdN M 3 : Nat)] 39)
  go_enter Try.func17, Try.ntmps17
  go_wp2
  go_ret
  exact ⟨rfl, hb⟩

set_option maxRecDepth 20000 in
set_option maxHeartbeats 2000000 in
theorem ack_bad (g : Nat) (n : Int) (A S M : List Bool) (T : Nat → Int × Int) (w : World) (hW : WinAt w g n A S T) (hn : ¬ (M.length : Int) = n) :
    Calls Try.prog 17 #[.pointer (some ⟨g, 0, none⟩), .agg #[.int .i64 (M.length : Nat), .int .u64 (wdN M 0 : Nat), .int .u64 (wdN M 1 : Nat), .int .u64 (wdN M 2 : Nat), .int .u64 (wdN M 3 : Nat)]] w fun e w' => e = .returned (.int .i64 1) ∧ Below w.heap.size w w' := by
  have hb := (Below.refl w.heap.size w).alloc (Nat.le_refl _) (.cells #[.int .i64 (M.length : Nat), .int .u64 (wdN M 0 : Nat), .int .u64 (wdN M 1 : Nat), .int .u64 (wdN M 2 : Nat), .int .u64 (wdN M 3 : Nat)] 39)
  have hbox : SetAt (w.alloc (.cells #[.int .i64 (M.length : Nat), .int .u64 (wdN M 0 : Nat), .int .u64 (wdN M 1 : Nat), .int .u64 (wdN M 2 : Nat), .int .u64 (wdN M 3 : Nat)] 39)) w.heap.size M := SetAt.new w M
  have hgw := hW.lt
  have hW1 := hW.below' hb
  obtain ⟨p, hp⟩ : ∃ p : Int, (M.length : Int) = p := ⟨_, rfl⟩
  have HM := Lib.hid hp
  have hpn : (p != n) = true := by rw [← hp]; simp [hn]
  clear hW hn hp
  go_enter Try.func17, Try.ntmps17
  go_upto_region 3 with (fail)
  generalize w.alloc (.cells #[.int .i64 (M.length : Nat), .int .u64 (wdN M 0 : Nat), .int .u64 (wdN M 1 : Nat), .int .u64 (wdN M 2 : Nat), .int .u64 (wdN M 3 : Nat)] 39) = w1 at *
  obtain ⟨b, hbe⟩ : ∃ b, w.heap.size = b := ⟨_, rfl⟩
  rw [hbe] at hbox hgw ⊢
  have Hbe := Lib.hid hbe
  clear hbe
  obtain ⟨f0, f1, f2, f3, f4⟩ := hbox.cells
  have hh := hW1.head
  have hcw : Below w1.heap.size w1 w1.drew ∧ w1.drew.cell? ⟨b, 0, none⟩ = some (.int .i64 (M.length : Nat)) ∧ w1.drew.cell? ⟨b, 1, none⟩ = some (.int .u64 (wdN M 0 : Nat)) ∧ w1.drew.cell? ⟨b, 2, none⟩ = some (.int .u64 (wdN M 1 : Nat)) ∧ w1.drew.cell? ⟨b, 3, none⟩ = some (.int .u64 (wdN M 2 : Nat)) ∧ w1.drew.cell? ⟨b, 4, none⟩ = some (.int .u64 (wdN M 3 : Nat)) ∧ w1.drew.cell? ⟨g, 0, none⟩ = some (.int .i64 n) := ⟨(Below.refl _ _).drew, f0, f1, f2, f3, f4, hh⟩
  clear f0 f1 f2 f3 f4 hh
  refine wp_region_held_drew (S := fun w' => Below w1.heap.size w1 w' ∧ w'.cell? ⟨b, 0, none⟩ = some (.int .i64 (M.length : Nat)) ∧ w'.cell? ⟨b, 1, none⟩ = some (.int .u64 (wdN M 0 : Nat)) ∧ w'.cell? ⟨b, 2, none⟩ = some (.int .u64 (wdN M 1 : Nat)) ∧ w'.cell? ⟨b, 3, none⟩ = some (.int .u64 (wdN M 2 : Nat)) ∧ w'.cell? ⟨b, 4, none⟩ = some (.int .u64 (wdN M 3 : Nat)) ∧ w'.cell? ⟨g, 0, none⟩ = some (.int .i64 n)) (by kernel_rfl) hcw (fun _ => ?_)
  refine anyH_take (i := 0) (v := ?_) rfl (by kernel_rfl) (by kernel_rfl) (by kernel_rfl) (fun _ _ _ h => h) (by rfl) ?_ (by assumption) ?_
  rotate_left
  · intro w' hSw; (try dsimp only at hSw); go_simp; (try with_reducible rfl)
  try simp only [Act.put, List.setIfInBounds_toArray, List.set_cons_zero, List.set_cons_succ]
  refine anyH_take (i := 2) (v := ?_) rfl (by kernel_rfl) (by kernel_rfl) (by kernel_rfl) (fun _ _ _ h => h) (by rfl) ?_ (by assumption) ?_
  rotate_left
  · intro w' hSw; (try dsimp only at hSw); go_simp; (try with_reducible rfl)
  try simp only [Act.put, List.setIfInBounds_toArray, List.set_cons_zero, List.set_cons_succ]
  refine anyH_take (i := 3) (v := ?_) rfl (by kernel_rfl) (by kernel_rfl) (by kernel_rfl) (fun _ _ _ h => h) (by rfl) ?_ (by assumption) ?_
  rotate_left
  · intro w' hSw; (try dsimp only at hSw); go_simp; (try with_reducible rfl)
  try simp only [Act.put, List.setIfInBounds_toArray, List.set_cons_zero, List.set_cons_succ]
  refine anyH_take (i := 4) (v := ?_) rfl (by kernel_rfl) (by kernel_rfl) (by kernel_rfl) (fun _ _ _ h => h) (by rfl) ?_ (by assumption) ?_
  rotate_left
  · intro w' hSw; (try dsimp only at hSw); go_simp; (try with_reducible rfl)
  try simp only [Act.put, List.setIfInBounds_toArray, List.set_cons_zero, List.set_cons_succ]
  refine anyH_take (i := 5) (v := ?_) rfl (by kernel_rfl) (by kernel_rfl) (by kernel_rfl) (fun _ _ _ h => h) (by rfl) ?_ (by assumption) ?_
  rotate_left
  · intro w' hSw; (try dsimp only at hSw); go_simp; (try with_reducible rfl)
  try simp only [Act.put, List.setIfInBounds_toArray, List.set_cons_zero, List.set_cons_succ]
  refine anyH_call (i := 1) rfl (by kernel_rfl) (by rfl) (fun K hK => ?_)
  go_simp
  go_at_call 14; (with_reducible refine (size_is M p HM.out _).mono ?_); rintro e w2 ⟨rfl, hb2⟩; have hX := held6 hb2 (by assumption)
  refine hK.out _ _ hX (fun _ => ?_)
  clear hK K
  try simp only [Act.put, List.setIfInBounds_toArray, List.set_cons_zero, List.set_cons_succ]
  refine anyH_take (i := 6) (v := ?_) rfl (by kernel_rfl) (by kernel_rfl) (by kernel_rfl) (fun _ _ _ h => h) (by rfl) ?_ (by assumption) ?_
  rotate_left
  · intro w' hSw; (try dsimp only at hSw); go_simp; (try with_reducible rfl)
  try simp only [Act.put, List.setIfInBounds_toArray, List.set_cons_zero, List.set_cons_succ]
  refine anyH_take (i := 7) (v := ?_) rfl (by kernel_rfl) (by kernel_rfl) (by kernel_rfl) (fun _ _ _ h => h) (by rfl) ?_ (by assumption) ?_
  rotate_left
  · intro w' hSw; (try dsimp only at hSw); go_simp; (try with_reducible rfl)
  try simp only [Act.put, List.setIfInBounds_toArray, List.set_cons_zero, List.set_cons_succ]
  refine wpAnyH_done (by kernel_rfl) ?_ _
  go_wp2_with fail
  go_ret
  exact ⟨rfl, bl hb (And.left (by assumption))⟩

set_option maxRecDepth 20000 in
set_option maxHeartbeats 2000000 in
theorem ack_ok (g : Nat) (n : Int) (A S M : List Bool) (T : Nat → Int × Int) (w : World) (hW : WinAt w g n A S T) (hn : (M.length : Int) = n) (hA : A.length ≤ 256) (hM : M.length ≤ 256) (hS : S.length ≤ 256) :
    Calls Try.prog 17 #[.pointer (some ⟨g, 0, none⟩), .agg #[.int .i64 (M.length : Nat), .int .u64 (wdN M 0 : Nat), .int .u64 (wdN M 1 : Nat), .int .u64 (wdN M 2 : Nat), .int .u64 (wdN M 3 : Nat)]] w fun e w' => e = .returned (.int .i64 0) ∧ WinAt w' g n M (offS S (listR (orB A M) 0)) (offT T (listR (orB A M) 0)) ∧ w.grownBy w' (some g) := by
  obtain ⟨O, hO'⟩ : ∃ O, orB A M = O := ⟨_, rfl⟩
  have hO : O.length ≤ 256 := by rw [← hO', orB_length]; omega
  obtain ⟨X, hX'⟩ : ∃ X, listR O 0 = X := ⟨_, rfl⟩
  have hXr : ∀ k (h : k < X.length), ∃ j : Nat, X[k] = j ∧ j < 256 := by
    intro k h
    obtain ⟨j, e, hj⟩ := listR_range O X[k] (by rw [hX']; exact List.getElem_mem h)
    exact ⟨j, e, by omega⟩
  have hXl : X.length ≤ 256 := by have := listR_length O 0; rw [hX'] at this; omega
  rw [hO', hX']
  have HO := Lib.hid hO'
  have HX := Lib.hid hX'
  have Hr := Lib.hid hXr
  clear hO' hX' hXr
  have hb := (Below.refl w.heap.size w).alloc (Nat.le_refl _) (.cells #[.int .i64 (M.length : Nat), .int .u64 (wdN M 0 : Nat), .int .u64 (wdN M 1 : Nat), .int .u64 (wdN M 2 : Nat), .int .u64 (wdN M 3 : Nat)] 39)
  have hbox : SetAt (w.alloc (.cells #[.int .i64 (M.length : Nat), .int .u64 (wdN M 0 : Nat), .int .u64 (wdN M 1 : Nat), .int .u64 (wdN M 2 : Nat), .int .u64 (wdN M 3 : Nat)] 39)) w.heap.size M := SetAt.new w M
  have hgw := hW.lt
  have hW1 := hW.below' hb
  obtain ⟨p, hp⟩ : ∃ p : Int, (M.length : Int) = p := ⟨_, rfl⟩
  have HM := Lib.hid hp
  have hpn : (p != n) = false := by rw [← hp]; simp [hn]
  clear hW hn hp
  go_enter Try.func17, Try.ntmps17
  go_upto_region 3 with (fail)
  generalize w.alloc (.cells #[.int .i64 (M.length : Nat), .int .u64 (wdN M 0 : Nat), .int .u64 (wdN M 1 : Nat), .int .u64 (wdN M 2 : Nat), .int .u64 (wdN M 3 : Nat)] 39) = w1 at *
  obtain ⟨b, hbe⟩ : ∃ b, w.heap.size = b := ⟨_, rfl⟩
  rw [hbe] at hbox hgw ⊢
  have Hbe := Lib.hid hbe
  clear hbe
  obtain ⟨f0, f1, f2, f3, f4⟩ := hbox.cells
  have hh := hW1.head
  have hcw : Below w1.heap.size w1 w1.drew ∧ w1.drew.cell? ⟨b, 0, none⟩ = some (.int .i64 (M.length : Nat)) ∧ w1.drew.cell? ⟨b, 1, none⟩ = some (.int .u64 (wdN M 0 : Nat)) ∧ w1.drew.cell? ⟨b, 2, none⟩ = some (.int .u64 (wdN M 1 : Nat)) ∧ w1.drew.cell? ⟨b, 3, none⟩ = some (.int .u64 (wdN M 2 : Nat)) ∧ w1.drew.cell? ⟨b, 4, none⟩ = some (.int .u64 (wdN M 3 : Nat)) ∧ w1.drew.cell? ⟨g, 0, none⟩ = some (.int .i64 n) := ⟨(Below.refl _ _).drew, f0, f1, f2, f3, f4, hh⟩
  clear f0 f1 f2 f3 f4 hh
  refine wp_region_held_drew (S := fun w' => Below w1.heap.size w1 w' ∧ w'.cell? ⟨b, 0, none⟩ = some (.int .i64 (M.length : Nat)) ∧ w'.cell? ⟨b, 1, none⟩ = some (.int .u64 (wdN M 0 : Nat)) ∧ w'.cell? ⟨b, 2, none⟩ = some (.int .u64 (wdN M 1 : Nat)) ∧ w'.cell? ⟨b, 3, none⟩ = some (.int .u64 (wdN M 2 : Nat)) ∧ w'.cell? ⟨b, 4, none⟩ = some (.int .u64 (wdN M 3 : Nat)) ∧ w'.cell? ⟨g, 0, none⟩ = some (.int .i64 n)) (by kernel_rfl) hcw (fun _ => ?_)
  refine anyH_take (i := 0) (v := ?_) rfl (by kernel_rfl) (by kernel_rfl) (by kernel_rfl) (fun _ _ _ h => h) (by rfl) ?_ (by assumption) ?_
  rotate_left
  · intro w' hSw; (try dsimp only at hSw); go_simp; (try with_reducible rfl)
  try simp only [Act.put, List.setIfInBounds_toArray, List.set_cons_zero, List.set_cons_succ]
  refine anyH_take (i := 2) (v := ?_) rfl (by kernel_rfl) (by kernel_rfl) (by kernel_rfl) (fun _ _ _ h => h) (by rfl) ?_ (by assumption) ?_
  rotate_left
  · intro w' hSw; (try dsimp only at hSw); go_simp; (try with_reducible rfl)
  try simp only [Act.put, List.setIfInBounds_toArray, List.set_cons_zero, List.set_cons_succ]
  refine anyH_take (i := 3) (v := ?_) rfl (by kernel_rfl) (by kernel_rfl) (by kernel_rfl) (fun _ _ _ h => h) (by rfl) ?_ (by assumption) ?_
  rotate_left
  · intro w' hSw; (try dsimp only at hSw); go_simp; (try with_reducible rfl)
  try simp only [Act.put, List.setIfInBounds_toArray, List.set_cons_zero, List.set_cons_succ]
  refine anyH_take (i := 4) (v := ?_) rfl (by kernel_rfl) (by kernel_rfl) (by kernel_rfl) (fun _ _ _ h => h) (by rfl) ?_ (by assumption) ?_
  rotate_left
  · intro w' hSw; (try dsimp only at hSw); go_simp; (try with_reducible rfl)
  try simp only [Act.put, List.setIfInBounds_toArray, List.set_cons_zero, List.set_cons_succ]
  refine anyH_take (i := 5) (v := ?_) rfl (by kernel_rfl) (by kernel_rfl) (by kernel_rfl) (fun _ _ _ h => h) (by rfl) ?_ (by assumption) ?_
  rotate_left
  · intro w' hSw; (try dsimp only at hSw); go_simp; (try with_reducible rfl)
  try simp only [Act.put, List.setIfInBounds_toArray, List.set_cons_zero, List.set_cons_succ]
  refine anyH_call (i := 1) rfl (by kernel_rfl) (by rfl) (fun K hK => ?_)
  go_simp
  go_at_call 14; (with_reducible refine (size_is M p HM.out _).mono ?_); rintro e w2 ⟨rfl, hb2⟩; have hX := held6 hb2 (by assumption)
  refine hK.out _ _ hX (fun _ => ?_)
  clear hK K
  try simp only [Act.put, List.setIfInBounds_toArray, List.set_cons_zero, List.set_cons_succ]
  refine anyH_take (i := 6) (v := ?_) rfl (by kernel_rfl) (by kernel_rfl) (by kernel_rfl) (fun _ _ _ h => h) (by rfl) ?_ (by assumption) ?_
  rotate_left
  · intro w' hSw; (try dsimp only at hSw); go_simp; (try with_reducible rfl)
  try simp only [Act.put, List.setIfInBounds_toArray, List.set_cons_zero, List.set_cons_succ]
  refine anyH_take (i := 7) (v := ?_) rfl (by kernel_rfl) (by kernel_rfl) (by kernel_rfl) (fun _ _ _ h => h) (by rfl) ?_ (by assumption) ?_
  rotate_left
  · intro w' hSw; (try dsimp only at hSw); go_simp; (try with_reducible rfl)
  try simp only [Act.put, List.setIfInBounds_toArray, List.set_cons_zero, List.set_cons_succ]
  refine wpAnyH_done (by kernel_rfl) ?_ _
  clear hcw
  have hB2 := bl hb hX.1
  have hW2 := hW1.below' hX.1
  have hbox2 := hbox.below' hX.1
  clear hX hW1 hbox hb
  go_upto_region 5 with (fail)
  obtain ⟨f0, f1, f2, f3, f4⟩ := hbox2.cells
  obtain ⟨d0, d1, d2, d3, d4⟩ := hW2.acked
  have hcw : Below w2.heap.size w2 w2.drew ∧ w2.drew.cell? ⟨b, 0, none⟩ = some (.int .i64 (M.length : Nat)) ∧ w2.drew.cell? ⟨b, 1, none⟩ = some (.int .u64 (wdN M 0 : Nat)) ∧ w2.drew.cell? ⟨b, 2, none⟩ = some (.int .u64 (wdN M 1 : Nat)) ∧ w2.drew.cell? ⟨b, 3, none⟩ = some (.int .u64 (wdN M 2 : Nat)) ∧ w2.drew.cell? ⟨b, 4, none⟩ = some (.int .u64 (wdN M 3 : Nat)) ∧ w2.drew.cell? ⟨g, 1, none⟩ = some (.int .i64 (A.length : Nat)) ∧ w2.drew.cell? ⟨g, 2, none⟩ = some (.int .u64 (wdN A 0 : Nat)) ∧ w2.drew.cell? ⟨g, 3, none⟩ = some (.int .u64 (wdN A 1 : Nat)) ∧ w2.drew.cell? ⟨g, 4, none⟩ = some (.int .u64 (wdN A 2 : Nat)) ∧ w2.drew.cell? ⟨g, 5, none⟩ = some (.int .u64 (wdN A 3 : Nat)) := ⟨(Below.refl _ _).drew, f0, f1, f2, f3, f4, d0, d1, d2, d3, d4⟩
  clear f0 f1 f2 f3 f4 d0 d1 d2 d3 d4
  refine wp_region_held_drew (S := fun w' => Below w2.heap.size w2 w' ∧ w'.cell? ⟨b, 0, none⟩ = some (.int .i64 (M.length : Nat)) ∧ w'.cell? ⟨b, 1, none⟩ = some (.int .u64 (wdN M 0 : Nat)) ∧ w'.cell? ⟨b, 2, none⟩ = some (.int .u64 (wdN M 1 : Nat)) ∧ w'.cell? ⟨b, 3, none⟩ = some (.int .u64 (wdN M 2 : Nat)) ∧ w'.cell? ⟨b, 4, none⟩ = some (.int .u64 (wdN M 3 : Nat)) ∧ w'.cell? ⟨g, 1, none⟩ = some (.int .i64 (A.length : Nat)) ∧ w'.cell? ⟨g, 2, none⟩ = some (.int .u64 (wdN A 0 : Nat)) ∧ w'.cell? ⟨g, 3, none⟩ = some (.int .u64 (wdN A 1 : Nat)) ∧ w'.cell? ⟨g, 4, none⟩ = some (.int .u64 (wdN A 2 : Nat)) ∧ w'.cell? ⟨g, 5, none⟩ = some (.int .u64 (wdN A 3 : Nat))) (by kernel_rfl) hcw (fun _ => ?_)
  refine anyH_take (i := 0) (v := ?_) rfl (by kernel_rfl) (by kernel_rfl) (by kernel_rfl) (fun _ _ _ h => h) (by rfl) ?_ (by assumption) ?_
  rotate_left
  · intro w' hSw; (try dsimp only at hSw); go_simp; (try with_reducible rfl)
  try simp only [Act.put, List.setIfInBounds_toArray, List.set_cons_zero, List.set_cons_succ]
  refine anyH_take (i := 1) (v := ?_) rfl (by kernel_rfl) (by kernel_rfl) (by kernel_rfl) (fun _ _ _ h => h) (by rfl) ?_ (by assumption) ?_
  rotate_left
  · intro w' hSw; (try dsimp only at hSw); go_simp; (try with_reducible rfl)
  try simp only [Act.put, List.setIfInBounds_toArray, List.set_cons_zero, List.set_cons_succ]
  refine anyH_take (i := 2) (v := ?_) rfl (by kernel_rfl) (by kernel_rfl) (by kernel_rfl) (fun _ _ _ h => h) (by rfl) ?_ (by assumption) ?_
  rotate_left
  · intro w' hSw; (try dsimp only at hSw); go_simp; (try with_reducible rfl)
  try simp only [Act.put, List.setIfInBounds_toArray, List.set_cons_zero, List.set_cons_succ]
  refine anyH_take (i := 3) (v := ?_) rfl (by kernel_rfl) (by kernel_rfl) (by kernel_rfl) (fun _ _ _ h => h) (by rfl) ?_ (by assumption) ?_
  rotate_left
  · intro w' hSw; (try dsimp only at hSw); go_simp; (try with_reducible rfl)
  try simp only [Act.put, List.setIfInBounds_toArray, List.set_cons_zero, List.set_cons_succ]
  refine anyH_take (i := 4) (v := ?_) rfl (by kernel_rfl) (by kernel_rfl) (by kernel_rfl) (fun _ _ _ h => h) (by rfl) ?_ (by assumption) ?_
  rotate_left
  · intro w' hSw; (try dsimp only at hSw); go_simp; (try with_reducible rfl)
  try simp only [Act.put, List.setIfInBounds_toArray, List.set_cons_zero, List.set_cons_succ]
  refine anyH_take (i := 8) (v := ?_) rfl (by kernel_rfl) (by kernel_rfl) (by kernel_rfl) (fun _ _ _ h => h) (by rfl) ?_ (by assumption) ?_
  rotate_left
  · intro w' hSw; (try dsimp only at hSw); go_simp; (try with_reducible rfl)
  try simp only [Act.put, List.setIfInBounds_toArray, List.set_cons_zero, List.set_cons_succ]
  refine anyH_call (i := 5) rfl (by kernel_rfl) (by rfl) (fun K hK => ?_)
  go_simp
  go_at_call 30; (with_reducible refine (or_is A M O HO.out _ hA hM).mono ?_); rintro e w3 ⟨rfl, hb3⟩; have hX := held10 hb3 (by assumption)
  refine hK.out _ _ hX (fun _ => ?_)
  clear hK K
  try simp only [Act.put, List.setIfInBounds_toArray, List.set_cons_zero, List.set_cons_succ]
  refine anyH_call (i := 6) rfl (by kernel_rfl) (by rfl) (fun K hK => ?_)
  go_simp
  go_at_call 25; (with_reducible refine (list_is O X HX.out _ hO).mono ?_); rintro e w4 ⟨A4, c4, rfl, hnc4, hcm4, hr4, hfr4, hb4⟩; have hX := held10 hb4 (by assumption)
  refine hK.out _ _ hX (fun _ => ?_)
  clear hK K
  try simp only [Act.put, List.setIfInBounds_toArray, List.set_cons_zero, List.set_cons_succ]
  refine anyH_take (i := 7) (v := ?_) rfl (by kernel_rfl) (by kernel_rfl) (by kernel_rfl) (fun _ _ _ h => h) (by rfl) ?_ (by assumption) ?_
  rotate_left
  · intro w' hSw; (try dsimp only at hSw); go_simp; (try with_reducible rfl)
  try simp only [Act.put, List.setIfInBounds_toArray, List.set_cons_zero, List.set_cons_succ]
  refine wpAnyH_done (by kernel_rfl) ?_ _
  clear hcw
  have hB4 := bl hB2 hX.1
  have hW4 := hW2.below' hX.1
  have hbox4 := hbox2.below' hX.1
  have hsz2 := hB2.size
  have hgA : ∀ ad, A4 = some ad → ad.block ≠ g := fun ad h => by have := hfr4 ad h; have := hb3.size; have : w2.drew.heap.size = w2.heap.size := rfl; have := Hbe.out; omega
  have hOff : Off g A4 (intVals X) := fun _ => hgA
  have hrel0 : AckRel w g n A S T X 0 w4 := ⟨hW4, by rw [List.take_zero]; exact hS, only_below g hB4⟩
  clear hX hW2 hbox2 hB2 hfr4 hgA hsz2
  go_upto_region 6 with (fail)
  go_loopw [6, 26] (fun x i wr => ∃ k : Nat, k ≤ X.length ∧ i = .int .i64 k ∧ AckRel w g n A S T X k wr ∧ w4.grownBy wr (some g)) (fun _ i _ => X.length - (intOf i).toNat)
  case atStart => exact ⟨0, by omega, rfl, hrel0, ⟨rfl, rfl, rfl, Nat.le_refl _, fun _ _ _ => rfl⟩⟩
  case round =>
    obtain ⟨k, hk, rfl, ⟨hWr, hSl, hgr⟩, hg4⟩ := hrel
    by_cases hlt : (k : Int) < (X.length : Int)
    · obtain ⟨j, hj, hj256⟩ := Hr.out k (by omega)
      have hrr := hr4.only hg4 hOff
      obtain ⟨bb, oo, rfl, hcell⟩ := hrr.at_ (k := k) (by simp only [intVals, List.length_map]; omega)
      simp only [intVals, List.getElem_map] at hcell
      rw [hj] at hcell
      have e1 := offS_snoc S X k (by omega)
      have e2 := offT_snoc T X k (by omega)
      rw [hj] at e1 e2
      have hjn : ((j : Int)).toNat = j := by omega
      rw [hjn] at e2
      have E1 := Lib.hid e1
      have E2 := Lib.hid e2
      clear hj e1 e2 hjn
      generalize hS1 : offS S (X.take k) = S1 at *
      generalize hT1 : offT T (X.take k) = T1 at *
      clear hS1 hT1
      obtain ⟨S2, hS2⟩ : ∃ S2, setB S1 (j : Int) false = S2 := ⟨_, rfl⟩
      have hl2 : S2.length ≤ 256 := by rw [← hS2, setB_length]; exact hSl
      have HS2 := Lib.hid hS2
      have hj1 : (j : Int) < 256 := by omega
      clear hS2
      obtain ⟨s0, s1, s2, s3, s4⟩ := hWr.sent
      go_wp2_with fail
      (with_reducible refine (without_is S1 (j : Int) S2 HS2.out _ hSl).mono ?_)
      rintro e w5 ⟨rfl, hb5⟩
      have hW5 := hWr.below' hb5
      clear s0 s1 s2 s3 s4
      obtain ⟨s0, s1, s2, s3, s4⟩ := hW5.sent
      have r6 := hW5.frozen 6
      have r7 := hW5.frozen 7
      have r8 := hW5.frozen 8
      have r9 := hW5.frozen 9
      have r10 := hW5.frozen 10
      have hW6 := hW5.setS S2
      have ho6 := set5_only w5 g 6 7 8 9 10 (.int .i64 (S2.length : Nat)) (.int .u64 (wdN S2 0 : Nat)) (.int .u64 (wdN S2 1 : Nat)) (.int .u64 (wdN S2 2 : Nat)) (.int .u64 (wdN S2 3 : Nat))
      go_upto_region 9 with (fail)
      generalize ((((w5.setCell ⟨g, 6, none⟩ (.int .i64 (S2.length : Nat))).setCell ⟨g, 7, none⟩ (.int .u64 (wdN S2 0 : Nat))).setCell ⟨g, 8, none⟩ (.int .u64 (wdN S2 1 : Nat))).setCell ⟨g, 9, none⟩ (.int .u64 (wdN S2 2 : Nat))).setCell ⟨g, 10, none⟩ (.int .u64 (wdN S2 3 : Nat)) = w6 at *
      clear s0 s1 s2 s3 s4 r6 r7 r8 r9 r10
      obtain ⟨t0, t1⟩ := hW6.timer j (11 + j * 2) (11 + j * 2 + 1) hj256 (by omega) (by omega)
      have r11 := hW6.frozen (11 + j * 2)
      have r12 := hW6.frozen (11 + j * 2 + 1)
      have hW7 := hW6.setT j (11 + j * 2) (11 + j * 2 + 1) 0 0 (by omega) (by omega)
      have ho7 := set2_only w6 g (11 + j * 2) (11 + j * 2 + 1) (.int .i64 0) (.int .i64 0)
      have hall := only_trans (only_below g hb5) (only_trans ho6 ho7)
      have hfin : AckRel w g n A S T X (k + 1) ((w6.setCell ⟨g, 11 + j * 2, none⟩ (.int .i64 0)).setCell ⟨g, 11 + j * 2 + 1, none⟩ (.int .i64 0)) := by
        refine ⟨?_, by rw [E1.out, HS2.out]; exact hl2, only_trans hgr hall⟩
        rw [E1.out, E2.out, HS2.out]
        exact hW7
      have hfin2 := only_trans hg4 hall
      clear hW6 ho6 hW7 ho7 hall hgr hg4 hWr hrel0 hW5 hb5 hrr
      go_wp2_with fail
      go_roundw
      case rel => exact ⟨k + 1, by omega, by go_num, hfin, hfin2⟩
      case measure => simp [intOf]; omega
    · have hkX : k = X.length := by omega
      subst hkX
      rw [List.take_length] at hWr
      have hbox5 := Bk.only hbox4 hg4 (by omega)
      obtain ⟨f0, f1, f2, f3, f4⟩ := SetAt.cells hbox5
      obtain ⟨d0, d1, d2, d3, d4⟩ := hWr.acked
      have r1 := hWr.frozen 1
      have r2 := hWr.frozen 2
      have r3 := hWr.frozen 3
      have r4 := hWr.frozen 4
      have r5 := hWr.frozen 5
      have hW6 := hWr.setA M
      have ho6 := set5_only wr g 1 2 3 4 5 (.int .i64 (M.length : Nat)) (.int .u64 (wdN M 0 : Nat)) (.int .u64 (wdN M 1 : Nat)) (.int .u64 (wdN M 2 : Nat)) (.int .u64 (wdN M 3 : Nat))
      have hgr' := only_trans hgr ho6
      clear hrel0 hg4 hgr ho6 hr4 hOff
      go_wp2_with fail
      go_ret
      exact ⟨rfl, hW6, hgr'⟩
end Go.Proofs.Ytapanifgnpklpaa
