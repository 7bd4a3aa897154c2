/-
  The reference's window: what its blocks hold; the walk of its Of.
-/
import Derived.Test.YtapanifgnpklpaaWinI
namespace Go.Proofs.Ytapanifgnpklpaa
open Go.RowKit

/-- Block b begins with n cells. -/
def RowN (w : World) (b : Nat) (t : TypeId) (n : Nat) (f : Nat → Value) : Prop := ∃ cur : Array Value, Bk w b t cur ∧ n ≤ cur.size ∧ ∀ i, i < n → cur[i]? = some (f i)
section
variable {w w' : World} {b : Nat} {t : TypeId} {n : Nat} {f : Nat → Value}
theorem RowN.cell (h : RowN w b t n f) {i : Nat} (hi : i < n) : w.cell? ⟨b, i, none⟩ = some (f i) := by
  obtain ⟨cur, hB, _, hc⟩ := h
  rw [hB.cell]
  exact hc i hi
theorem RowN.frozen (h : RowN w b t n f) (i : Nat) : w.frozen? ⟨b, i, none⟩ = false := by
  obtain ⟨cur, hB, _, _⟩ := h
  exact hB.frozen i
theorem RowN.lt (h : RowN w b t n f) : b < w.heap.size := by
  obtain ⟨cur, hB, _, _⟩ := h
  exact hB.lt
theorem RowN.of_block (h : RowN w b t n f) (e : w'.heap[b]? = w.heap[b]?) : RowN w' b t n f := by
  obtain ⟨cur, hB, h1, h2⟩ := h
  exact ⟨cur, e.trans hB, h1, h2⟩
theorem RowN.congr {g : Nat → Value} (h : RowN w b t n f) (e : ∀ i, i < n → f i = g i) : RowN w b t n g := by
  obtain ⟨cur, hB, h1, h2⟩ := h
  exact ⟨cur, hB, h1, fun i hi => by rw [h2 i hi, e i hi]⟩
theorem RowN.set (h : RowN w b t n f) (i : Nat) (v : Value) : RowN (w.setCell ⟨b, i, none⟩ v) b t n (fun j => if j = i then v else f j) := by
  obtain ⟨cur, hB, h1, h2⟩ := h
  refine ⟨_, hB.set_ i v, by simpa using h1, fun j hj => ?_⟩
  rw [Array.getElem?_setIfInBounds]
  by_cases e : i = j
  · subst e
    rw [if_pos rfl, if_pos (by omega)]
    exact congrArg some (if_pos rfl).symm
  · rw [if_neg e]
    have h3 : (fun j => if j = i then v else f j) j = f j := if_neg (fun h => e h.symm)
    rw [h3]
    exact h2 j hj
end

/-- The state of block i: 2 has come, 1 in flight, 0 neither. -/
def stV (A S : List Bool) (i : Nat) : Int := if A.getD i false = true then 2 else if S.getD i false = true then 1 else 0
def stF (A S : List Bool) (i : Nat) : Value := .int .i64 (stV A S i)
/-- Timers as cells. -/
def timF (T : Nat → Int × Int) (i : Nat) : Value := if i % 2 = 0 then .int .i64 (T (i / 2)).1 else .int .i64 (T (i / 2)).2
theorem timF_at (T : Nat → Int × Int) (k : Nat) : timF T (k * 2) = .int .i64 (T k).1 ∧ timF T (k * 2 + 1) = .int .i64 (T k).2 := by
  constructor
  · unfold timF; rw [if_pos (by omega), show k * 2 / 2 = k from by omega]
  · unfold timF; rw [if_neg (by omega), show (k * 2 + 1) / 2 = k from by omega]
theorem timF_set (T : Nat → Int × Int) (k : Nat) (x : Int × Int) (j : Nat) : (if j = k * 2 + 1 then Value.int .i64 x.2 else (fun j => if j = k * 2 then Value.int .i64 x.1 else timF T j) j) = timF (upd T k x) j := by
  unfold timF upd
  by_cases h1 : j = k * 2 + 1
  · subst h1
    rw [if_pos rfl, if_neg (by omega), if_pos (by omega)]
  · rw [if_neg h1]
    by_cases h2 : j = k * 2
    · subst h2
      simp
    · have h3 : ¬ j / 2 = k := by omega
      simp [h2, h3]

/-- The reference's window, as the program's is: the slices lie in blocks rs, rt, if there is any block. -/
def RefAt (w : World) (r rs rt N : Nat) (vS vT : Value) (A S : List Bool) (T : Nat → Int × Int) : Prop :=
  Bk w r 54 #[vS, vT] ∧ r ≠ rs ∧ r ≠ rt ∧ rs ≠ rt ∧
    (∃ AS cs, vS = .slice AS N cs ∧ N ≤ cs ∧ cs ≤ maxLen ∧ (0 < N → AS = some ⟨rs, 0, none⟩)) ∧ (∃ AT ct, vT = .slice AT N ct ∧ N ≤ ct ∧ ct ≤ maxLen ∧ (0 < N → AT = some ⟨rt, 0, none⟩)) ∧
    (0 < N → RowN w rs 3 N (stF A S)) ∧ ∃ Tt, (0 < N → RowN w rt 26 (N * 2) (timF Tt)) ∧ ∀ i, i < N → S.getD i false = true → Tt i = T i ∧ (T i).2 ≤ 16
theorem RefAt.below' {w w' : World} {r rs rt N : Nat} {vS vT : Value} {A S : List Bool} {T : Nat → Int × Int} (h : RefAt w r rs rt N vS vT A S T) (hb : Below w.heap.size w w') : RefAt w' r rs rt N vS vT A S T := by
  obtain ⟨h1, h2, h3, h4, h5, h6, h7, Tt, h8, h9⟩ := h
  exact ⟨h1.below' hb, h2, h3, h4, h5, h6, fun hN => (h7 hN).of_block (hb.block rs (h7 hN).lt), Tt, fun hN => (h8 hN).of_block (hb.block rt (h8 hN).lt), h9⟩

theorem stV_of (A S : List Bool) (i : Nat) (hd : S.getD i false = true → A.getD i false = false) : (stV A S i = 1 ↔ S.getD i false = true) ∧ (stV A S i = 2 ↔ A.getD i false = true) := by
  unfold stV
  cases ha : A.getD i false with
  | true => cases hs : S.getD i false with
    | true => rw [ha] at hd; exact absurd (hd hs) (by simp)
    | false => simp
  | false => cases hs : S.getD i false <;> simp

set_option maxRecDepth 20000 in
set_option maxHeartbeats 1000000 in
/-- 'Of': the blocks of a state, those that L tells. -/
theorem ref_of (r rs rt N : Nat) (vS vT : Value) (A S : List Bool) (T : Nat → Int × Int) (s : Int) (L : List Bool) (hL : L.length = N) (hv : ∀ i, i < N → (stV A S i = s ↔ L.getD i false = true)) (hN : N ≤ 256) (w : World) (h : RefAt w r rs rt N vS vT A S T) :
    Calls Try.prog 26 #[.pointer (some ⟨r, 0, none⟩), .int .i64 s] w (RetS w (listR L 0).length (intVals (listR L 0))) := by
  have hll := listR_length L 0
  have HL := Lib.hid hL
  have Hv := Lib.hid hv
  clear hL hv
  have h0 := h
  obtain ⟨hB, h2, h3, h4, ⟨AS, cs, rfl, hNc, hcm, hAS⟩, h6, h7, h8⟩ := h
  clear h2 h3 h4 h6 h8
  go_enter Try.func26, Try.ntmps26
  go_upto_region 3 with (fail)
  go_loopw [5, 6] (fun v i wr => ∃ (k : Nat) (xs : List Int), k ≤ N ∧ i = .int .i64 k ∧ Hid (xs ++ listR L k = listR L 0) ∧ wr.ownsRow w.heap.size 3 1 v xs.length (intVals xs) ∧ Below w.heap.size w wr) (fun _ i _ => N - (intOf i).toNat)
  case atStart => exact ⟨0, [], by omega, rfl, rfl, World.ownsRow_nil _ _ _ _, Below.refl _ _⟩
  case round =>
    obtain ⟨k, xs, hk, rfl, hxs, hown, hb⟩ := hrel
    have hsz := hb.size
    have hBr := hB.below' hb
    have hp0 : wr.cell? ⟨r, 0, none⟩ = some (.slice AS N cs) := hBr.cell 0
    by_cases hlt : (k : Int) < (N : Int)
    · obtain rfl := hAS (by omega)
      have hR := h7 (by omega)
      have hRr := hR.of_block (hb.block rs hR.lt)
      have hcell := hRr.cell (i := k) (by omega)
      unfold stF at hcell
      have hxl : xs.length ≤ N := by have := congrArg List.length hxs.out; rw [List.length_append] at this; have := HL.out; omega
      by_cases hs : stV A S k = s
      · have Hl := Lib.hid (listR_hit L k (by rw [HL.out]; omega) ((Hv.out k (by omega)).1 hs))
        rw [hs] at hcell
        clear hs hR hRr
        go_wp2_with (at_builtin; go_must (refine wpList_append_new wr rfl (.tmp 25) (.tmp 27) 22 rfl w.heap.size 3 1 8 el_int _ _ _ hown rfl _ rfl rfl (by intro u hu; simp at hu; subst hu; rfl) (by unfold maxLen; omega) (by omega) hsz ?_); intro v2 w2 hown2 hb2)
        go_roundw
        case rel => exact ⟨k + 1, xs ++ [(k : Int)], by omega, by go_num, by rw [List.append_assoc, List.singleton_append, ← Hl.out]; exact hxs, by rw [List.length_append, ← intVals_snoc]; exact hown2, hb.trans hb2⟩
        case measure => simp [intOf]; omega
      · have Hl := Lib.hid (listR_miss L k (by rw [HL.out]; omega) (fun e => hs ((Hv.out k (by omega)).2 e)))
        have hsb : (stV A S k == s) = false := by simp [hs]
        generalize stV A S k = z at *
        clear hs hR hRr
        go_wp2_with fail
        go_roundw
        case rel => exact ⟨k + 1, xs, by omega, by go_num, by rw [← Hl.out]; exact hxs, hown, hb⟩
        case measure => simp [intOf]; omega
    · have Hl := Lib.hid (listR_end L k (by rw [HL.out]; omega))
      go_wp2_with fail
      go_ret
      have e : listR L 0 = xs := by rw [← hxs.out, Hl.out, List.append_nil]
      rw [e]
      exact RetS.own hown hb (by omega)
end Go.Proofs.Ytapanifgnpklpaa
