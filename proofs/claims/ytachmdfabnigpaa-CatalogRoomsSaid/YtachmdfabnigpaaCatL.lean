/-
  Entries in a row: the law's 'few'.
-/
import Derived.Test.YtachmdfabnigpaaCatI
import Derived.Test.YtachmdfabnigpaaFrameE
namespace Go.Proofs.Ytachmdfabnigpaa
open Go.RowKit Go.Sort

theorem flat_get (l : List Ent) (t : Nat) (x : Ent) (h : l[t / 8]? = some x) : (flat l)[t]? = x.cs[t % 8]? := by
  have hl := (List.getElem?_eq_some_iff.1 h).1
  have ht : t < l.length * 8 := by omega
  have h8 : t % 8 < x.cs.length := by rw [Ent.len]; omega
  have e : l.toArray[t / 8]! = x := by
    rw [getElem!_pos _ (t / 8) (by simpa using hl)]
    simpa using (List.getElem?_eq_some_iff.1 h).2
  unfold flat
  rw [Array.getElem?_toList, Array.getElem?_eq_getElem (by simpa using ht), ← getElem!_pos (flatK Ent.cs 8 l.toArray) t (by simpa using ht), get_flatK _ _ _ t (by simpa using ht), e, getElem!_pos x.cs (t % 8) h8, List.getElem?_eq_getElem h8]
theorem flat_snoc (l : List Ent) (x : Ent) : flat (l ++ [x]) = flat l ++ x.cs := by
  refine List.ext_getElem? fun t => ?_
  by_cases ht : t < l.length * 8
  · have h8 : t / 8 < l.length := by omega
    rw [flat_get _ t (l[t / 8]'h8) (by rw [List.getElem?_append_left h8]; exact List.getElem?_eq_getElem h8), List.getElem?_append_left (by rw [flat_len]; exact ht), flat_get l t _ (List.getElem?_eq_getElem h8)]
  · by_cases ht2 : t < l.length * 8 + 8
    · have h8 : t / 8 = l.length := by omega
      rw [flat_get _ t x (by rw [h8]; simp), List.getElem?_append_right (by rw [flat_len]; omega), flat_len]
      congr 1
      omega
    · rw [List.getElem?_eq_none (by rw [flat_len, List.length_append]; simp; omega), List.getElem?_eq_none (by rw [List.length_append, flat_len, Ent.len]; omega)]

theorem flat_nil : flat [] = [] := List.eq_nil_of_length_eq_zero (by rw [flat_len]; rfl)
/-- Entries that may be. -/
def May (l : List Ent) : Prop := ∀ x ∈ l, x.n ≤ 256 ∧ x.ba ≤ 1024
def FewEnd (w : World) (e : Ending) (w' : World) : Prop :=
  ∃ (L : List Ent) (A : Option Addr) (c : Nat), e = .returned (.slice A L.length c) ∧ L.length ≤ 20 ∧ Rd w' A (flat L) ∧ Below w.heap.size w w'

theorem own_below8 {w w3 : World} {base : Nat} {e : TypeId} {v : Value} {n : Nat} {xs : List Value} (h : w.ownsRow base e 8 v n xs) (hb : Below w.heap.size w w3) : w3.ownsRow base e 8 v n xs := by
  rcases h.2 with ⟨h1, h2⟩ | ⟨g, cap, cur, h1, h2, h3, h4⟩
  · exact ⟨h.1, .inl ⟨h1, h2⟩⟩
  · exact ⟨h.1, .inr ⟨g, cap, cur, h1, h2, Bk.below' h3 hb, h4⟩⟩

set_option maxRecDepth 20000 in
set_option maxHeartbeats 4000000 in
theorem few_any (A : Option Addr) (n c : Nat) (hn : n ≤ 9223372036854775807) (w : World) (hE : ExtsIn w A n) :
    Calls Try.prog 11 #[.slice A n c] w (FewEnd w) := by
  go_enter Try.func11, Try.ntmps11
  go_wp2_with fail
  go_loopw [3, 4] (fun v i wr => ∃ (k : Nat) (L : List Ent), k ≤ n ∧ L.length ≤ 20 ∧ i = .int .i64 k ∧ wr.ownsRow w.heap.size 25 8 v L.length (flat L) ∧ Below w.heap.size w wr) (fun _ i _ => n - (intOf i).toNat)
  case atStart => exact ⟨0, [], by omega, by simp, rfl, by rw [flat_nil]; exact World.ownsRow_nil _ _ _ _, Below.refl _ _⟩
  case round =>
    obtain ⟨k, L, hk, hL, rfl, hown, hb⟩ := hrel
    have hX := hE.below hb
    obtain ⟨_, A1, c1, hv, hq1, hq2, hq3⟩ := Sl.own hown
    subst hv
    by_cases hkn : k < n
    · by_cases hL2 : L.length < 20
      · obtain ⟨b, o, id, sa, nn, bs, raw, ro, ta, ba, rfl, q0, q1, q2, q3, q4, q5, q6, q7⟩ := hX k hkn
        have hX2 := hX
        rcases hm : extOk id sa nn bs raw ro ta ba with _ | _
        · have HM := Lib.hid hm
          clear hm hq3
          go_wp2_with fail
          (with_reducible refine (jmay_c id sa nn bs raw ro ta ba false HM.out _).mono ?_)
          rintro e w3 ⟨rfl, hb3⟩
          have hown3 := own_below8 hown hb3
          have hX3 := hX.below hb3
          have hb4 := below_then hb hb3 hb.size
          clear hX hX2 hown hb hb3 q0 q1 q2 q3 q4 q5 q6 q7
          go_wp2_with fail
          go_roundw
          case rel => exact ⟨k + 1, L, by omega, hL, rfl, hown3, hb4⟩
          case measure => simp [intOf]; omega
        · have HM := Lib.hid hm
          obtain ⟨m1, m2, m3, m4⟩ := extOk_num hm
          have hfl := flat_snoc L ⟨id, sa, nn, bs, raw, ro, ta, ba, ⟨by omega, by omega⟩, ⟨by omega, by omega⟩⟩
          have Hfl := Lib.hid hfl
          clear hm hq3 hfl
          go_wp2_with fail
          (with_reducible refine (jmay_c id sa nn bs raw ro ta ba true HM.out _).mono ?_)
          rintro e w3 ⟨rfl, hb3⟩
          have hown3 := own_below8 hown hb3
          have hX3 := hX.below hb3
          have hb4 := below_then hb hb3 hb.size
          have kk : ∀ {a : Addr} {v : Value}, wr.cell? a = some v → w3.cell? a = some v := fun h => (hb3.cell (World.block_lt_of_cell? wr _ h)).trans h
          have r0 := kk q0
          have r1 := kk q1
          have r2 := kk q2
          have r3 := kk q3
          have r4 := kk q4
          have r5 := kk q5
          have r6 := kk q6
          have r7 := kk q7
          have hsz := hb4.size
          clear hX hX2 hown hb hb3 q0 q1 q2 q3 q4 q5 q6 q7 kk
          go_wp2_with (at_builtin; go_must (refine wpList_append_new w3 rfl (.tmp 21) (.tmp 26) 34 rfl w.heap.size 25 8 88 el_ext _ _ _ hown3 rfl _ rfl rfl (by intro u hu; simp at hu; rcases hu with rfl | rfl | rfl | rfl | rfl | rfl | rfl | rfl <;> rfl) (by unfold maxLen; omega) (by omega) hsz ?_); intro v2 w2 hown2 hb2)
          go_roundw
          case rel => exact ⟨k + 1, L ++ [⟨id, sa, nn, bs, raw, ro, ta, ba, ⟨by omega, by omega⟩, ⟨by omega, by omega⟩⟩], by omega, by rw [List.length_append]; simp; omega, rfl, by rw [List.length_append, Hfl.out]; exact hown2, hb4.trans hb2⟩
          case measure => simp [intOf]; omega
      · clear hX
        go_wp2_with fail
        go_ret
        exact ⟨L, A1, c1, rfl, hL, hq3, hb⟩
    · clear hX
      obtain rfl : k = n := by omega
      go_wp2_with fail
      go_ret
      exact ⟨L, A1, c1, rfl, hL, hq3, hb⟩
end Go.Proofs.Ytachmdfabnigpaa
