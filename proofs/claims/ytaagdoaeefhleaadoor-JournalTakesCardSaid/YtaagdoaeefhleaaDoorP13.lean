/-
  The walks of List, Put and Same. The walk of the reference's Same: two lists of ints.
-/
import Derived.Test.YtaagdoaeefhleaaDoorBitN
import Derived.Test.YtaagdoaeefhleaaDoorP1
namespace Go.Proofs.YtaagdoaeefhleaaDoor
open Go.RowKit

theorem Tryd.info3 : (Tryd.prog.info? 3).map (fun i => (i.zero, i.size, i.bytes)) = some (some (.int .i64 0), 1, 8) := by kernel_rfl
theorem el_int : El Tryd.prog 26 3 1 8 := El.mk_ (z := .int .i64 0) Tryd.underlying26 Tryd.info3 (by omega) rfl

/-- The places from k on that hold yes. -/
def listR (L : List Bool) (k : Nat) : List Int := if h : k < L.length then (if L.getD k false = true then (k : Int) :: listR L (k + 1) else listR L (k + 1)) else []
termination_by L.length - k
theorem listR_end (L : List Bool) (k : Nat) (h : L.length ≤ k) : listR L k = [] := by unfold listR; rw [dif_neg (by omega)]
theorem listR_hit (L : List Bool) (k : Nat) (h : k < L.length) (hv : L.getD k false = true) : listR L k = (k : Int) :: listR L (k + 1) := by rw [listR, dif_pos h, if_pos hv]
theorem listR_miss (L : List Bool) (k : Nat) (h : k < L.length) (hv : L.getD k false ≠ true) : listR L k = listR L (k + 1) := by rw [listR, dif_pos h, if_neg hv]
theorem listR_length (L : List Bool) (k : Nat) : (listR L k).length ≤ L.length - k := by
  suffices h : ∀ d k, L.length - k = d → (listR L k).length ≤ d from h _ k rfl
  intro d
  induction d with
  | zero => intro k hk; rw [listR_end L k (by omega)]; simp
  | succ d ih =>
    intro k hk
    by_cases hv : L.getD k false = true
    · rw [listR_hit L k (by omega) hv]; simpa using ih (k + 1) (by omega)
    · rw [listR_miss L k (by omega) hv]; exact Nat.le_succ_of_le (ih (k + 1) (by omega))
theorem next_list (L : List Bool) (k : Nat) : (nextR L true k = -1 ∧ listR L k = []) ∨ ∃ j : Nat, nextR L true k = j ∧ k ≤ j ∧ j < L.length ∧ listR L k = (j : Int) :: listR L (j + 1) := by
  suffices h : ∀ d k, L.length - k = d → (nextR L true k = -1 ∧ listR L k = []) ∨ ∃ j : Nat, nextR L true k = j ∧ k ≤ j ∧ j < L.length ∧ listR L k = (j : Int) :: listR L (j + 1) from h _ k rfl
  intro d
  induction d with
  | zero => intro k hk; exact .inl ⟨nextR_end L true k (by omega), listR_end L k (by omega)⟩
  | succ d ih =>
    intro k hk
    by_cases hv : L.getD k false = true
    · exact .inr ⟨k, nextR_hit L true k (by omega) hv, by omega, by omega, listR_hit L k (by omega) hv⟩
    · rw [nextR_miss L true k (by omega) hv, listR_miss L k (by omega) hv]
      rcases ih (k + 1) (by omega) with h | ⟨j, h1, h2, h3⟩
      · exact .inl h
      · exact .inr ⟨j, h1, by omega, h3⟩
def intVals (xs : List Int) : List Value := xs.map (Value.int .i64)
theorem intVals_snoc (xs : List Int) (x : Int) : intVals xs ++ [Value.int .i64 x] = intVals (xs ++ [x]) := by simp [intVals]
theorem nextB_nat (L : List Bool) (k : Nat) (v : Bool) : nextB L (k : Int) v = nextR L v k := rfl
theorem nextB_succ (L : List Bool) (k : Nat) (v : Bool) : nextB L ((k : Int) + 1) v = nextR L v (k + 1) := rfl

set_option maxHeartbeats 1000000 in
theorem list_any (L : List Bool) (w : World) (hL : L.length ≤ 256) :
    Calls Tryd.prog 14 #[setV L] w (RetS w (listR L 0).length (intVals (listR L 0))) := by
  have hll := listR_length L 0
  unfold setV
  go_enter Tryd.func14, Tryd.ntmps14
  go_wp2_with (go_at_call 34; go_must (refine (next_any L 0 true _ hL).mono ?_); rintro e w1 ⟨rfl, hb1⟩)
  have hS0 := SetAt.below' (SetAt.new w L) hb1
  have hb1' := below_of_alloc hb1
  go_loopw [3, 4] (fun v i wr => ∃ (k : Nat) (xs : List Int), i = .int .i64 (nextR L true k) ∧ Hid (xs ++ listR L k = listR L 0) ∧ wr.ownsRow (w.heap.size + 1) 3 1 v xs.length (intVals xs) ∧ SetAt wr w.heap.size L ∧ Below w.heap.size w wr) (fun _ i _ => if intOf i < 0 then 0 else 257 - (intOf i).toNat)
  case atStart => exact ⟨0, [], rfl, rfl, World.ownsRow_nil _ _ _ _, hS0, hb1'⟩
  case round =>
    obtain ⟨k, xs, rfl, hxs, hown, hS, hb⟩ := hrel
    rcases next_list L k with ⟨hn, hl⟩ | ⟨j, hn, hkj, hj, hl⟩
    · rw [hn]
      have Hl := Lib.hid hl
      clear hl hn
      go_wp2
      go_ret
      have e : listR L 0 = xs := by rw [← hxs.out, Hl.out, List.append_nil]
      rw [e]
      exact RetS.own hown hb (by omega)
    · rw [hn]
      have Hl := Lib.hid hl
      have hlen : xs.length ≤ 256 := by have := congrArg List.length hxs.out; rw [List.length_append] at this; omega
      have hsz := hb.size
      have hlt := hS.lt'
      obtain ⟨hc0, hc1, hc2, hc3, hc4⟩ := hS.cells
      clear hl hn
      go_wp2_with (at_builtin; go_must (refine wpList_append_new wr rfl (.tmp 13) (.tmp 15) 26 rfl (w.heap.size + 1) 3 1 8 el_int _ _ _ hown rfl _ rfl rfl (by intro u hu; simp at hu; subst hu; rfl) (by unfold maxLen; omega) (by omega) (by omega) ?_); intro v2 w2 hown2 hb2; clear hc0 hc1 hc2 hc3 hc4; have hS2 := Bk.below hS hb2 (Nat.lt_succ_self _); obtain ⟨hc0, hc1, hc2, hc3, hc4⟩ := SetAt.cells hS2)
      refine (next_any L _ true _ hL).mono ?_
      rintro e w3 ⟨rfl, hb3⟩
      rw [nextB_succ]
      have hmu : (if nextR L true (j + 1) < 0 then 0 else 257 - (nextR L true (j + 1)).toNat) < 257 - j := by
        rcases next_list L (j + 1) with ⟨h, _⟩ | ⟨j', h, h2, _⟩
        · rw [h]; simp; omega
        · rw [h, if_neg (by omega)]; omega
      have Hmu := Lib.hid hmu
      have hown3 := own_below hown2 hb3
      have hS3 := SetAt.below' hS2 hb3
      have hb23 := below_then (hb.trans (hb2.mono (by omega))) hb3 (by have := hb2.size; omega)
      rw [intVals_snoc] at hown3
      clear hc0 hc1 hc2 hc3 hc4 hmu
      go_wp2
      go_roundw
      case rel => exact ⟨j + 1, xs ++ [(j : Int)], rfl, by rw [List.append_assoc, List.singleton_append, ← Hl.out]; exact hxs, by rw [List.length_append]; exact hown3, hS3, hb23⟩
      case measure =>
        show (if nextR L true (j + 1) < 0 then 0 else 257 - (nextR L true (j + 1)).toNat) < (if (j : Int) < 0 then 0 else 257 - ((j : Int)).toNat)
        rw [if_neg (show ¬ (j : Int) < 0 by omega)]
        exact Hmu.out
end Go.Proofs.YtaagdoaeefhleaaDoor
namespace Go.Proofs.YtaagdoaeefhleaaDoor
open Go.RowKit

/-- Two lists of ints, the same? -/
def sameI (a b : List Int) : Bool := decide (a = b)
theorem rd_int {w : World} {A : Option Addr} {xs : List Int} (h : Rd w A (intVals xs)) (k : Nat) (hk : k < xs.length) : ∃ b o, A = some ⟨b, o, none⟩ ∧ w.cell? ⟨b, o + k, none⟩ = some (.int .i64 (xs.getD k 0)) := by
  obtain ⟨b, o, e, hc⟩ := h.at_ (k := k) (by simpa [intVals] using hk)
  refine ⟨b, o, e, ?_⟩
  rw [hc]
  simp [intVals, List.getD_eq_getElem?_getD, List.getElem?_eq_getElem hk]
theorem same_of (a b : List Int) (h : a.length = b.length) (h2 : ∀ k, k < a.length → a.getD k 0 = b.getD k 0) : sameI a b = true := by
  unfold sameI
  rw [decide_eq_true_eq]
  refine List.ext_getElem h fun i h1 h3 => ?_
  have := h2 i h1
  simpa [List.getD_eq_getElem?_getD, List.getElem?_eq_getElem h1, List.getElem?_eq_getElem h3] using this
theorem same_not (a b : List Int) (k : Nat) (h2 : a.getD k 0 ≠ b.getD k 0) : sameI a b = false := by
  unfold sameI
  rw [decide_eq_false_iff_not]
  rintro rfl
  exact h2 rfl

set_option maxHeartbeats 1000000 in
theorem same_any (A B : Option Addr) (n m c d : Nat) (xs ys : List Int) (w : World) (hx : xs.length = n) (hy : ys.length = m) (hr : Rd w A (intVals xs)) (hs : Rd w B (intVals ys)) (hn : n ≤ 9223372036854775807) (hm : m ≤ 9223372036854775807) :
    Calls Tryd.prog 13 #[.slice A n c, .slice B m d] w fun e w' => e = .returned (.bool (sameI xs ys)) ∧ Below w.heap.size w w' := by
  have Hx := Lib.hid hx
  have Hy := Lib.hid hy
  clear hx hy
  by_cases hne : n = m
  · subst hne
    have e0 : ((n : Int) != (n : Int)) = false := by simp
    go_enter Tryd.func13, Tryd.ntmps13
    go_wp2
    go_loopw [5] (fun i wr => ∃ k : Nat, k ≤ n ∧ i = .int .i64 k ∧ (∀ j, j < k → Hid (xs.getD j 0 = ys.getD j 0)) ∧ ∃ q, wr = w.drewN q) (fun i _ => n - (intOf i).toNat)
    case atStart => exact ⟨0, by omega, rfl, fun j hj => by omega, 0, rfl⟩
    case round =>
      obtain ⟨k, hk, rfl, hp, q, rfl⟩ := hrel
      by_cases hlt : (k : Int) < (n : Int)
      · obtain ⟨b, o, rfl, hc1⟩ := rd_int hr k (by rw [Hx.out]; omega)
        obtain ⟨b2, o2, rfl, hc2⟩ := rd_int hs k (by rw [Hy.out]; omega)
        by_cases he : xs.getD k 0 = ys.getD k 0
        · have hp' : ∀ j, j < k + 1 → Hid (xs.getD j 0 = ys.getD j 0) := by
            intro j hj
            by_cases hjk : j = k
            · subst hjk; exact he
            · exact hp j (by omega)
          have Hp := Lib.hid hp'
          rw [← he] at hc2
          generalize xs.getD k 0 = z at hc1 hc2
          clear he hp hp'
          go_wp2
          go_quiet (fail)
          go_wp2
          go_roundw
          case rel => exact ⟨k + 1, by omega, by go_num, Hp.out, _, rfl⟩
          case measure => simp [intOf]; omega
        · have H := Lib.hid (same_not xs ys k he)
          have hb : (xs.getD k 0 == ys.getD k 0) = false := beq_eq_false_iff_ne.2 he
          generalize xs.getD k 0 = z at hc1 hb
          generalize ys.getD k 0 = z2 at hc2 hb
          clear he hp
          go_wp2
          go_quiet (fail)
          go_wp2
          go_ret
          exact ⟨by rw [H.out]; rfl, below_drewN (below_drewN (Below.refl _ _) _) _⟩
      · have H := Lib.hid (same_of xs ys (by rw [Hx.out, Hy.out]) (fun j hj => (hp j (by rw [Hx.out] at hj; omega)).out))
        clear hp
        go_wp2
        go_ret
        exact ⟨by rw [H.out]; rfl, below_drewN (Below.refl _ _) _⟩
  · have H := Lib.hid (show sameI xs ys = false by unfold sameI; rw [decide_eq_false_iff_not]; rintro rfl; exact hne (by rw [← Hx.out, Hy.out]))
    have e0 : ((n : Int) == (m : Int)) = false := beq_eq_false_iff_ne.2 (by omega)
    go_enter Tryd.func13, Tryd.ntmps13
    go_wp2
    go_ret
    exact ⟨by rw [H.out]; rfl, Below.refl _ _⟩

end Go.Proofs.YtaagdoaeefhleaaDoor
