/-
  The walk of the law PathJoins.
-/
import Derived.Test.YtfgneoalofnmaaaPathK
namespace Go.Proofs.Ytfgneoalofnmaaa
open Go.RowKit

/-- A text of at most 300 bytes out of any one. -/
def shortL (s : ByteArray) : ByteArray := ofL (s.toList.take 300)
theorem shortL_size (s : ByteArray) : (shortL s).size ≤ 300 := by unfold shortL; rw [size_ofL, List.length_take]; omega
theorem short_big (s : ByteArray) : (cutL s).extract 0 300 = shortL s := str_eq (by
  unfold cutL shortL; rw [toList_pre, toList_ofL, toList_ofL, List.take_take]; congr 1)
theorem short_small (s : ByteArray) (h : ¬ 300 < (cutL s).size) : cutL s = shortL s := str_eq (by
  have h' : ¬ 300 < (cutL s).toList.length := by rw [size_toList]; exact h
  unfold cutL at h' ⊢
  unfold shortL
  rw [toList_ofL] at h' ⊢
  rw [toList_ofL]
  rw [List.length_take] at h'
  rw [List.take_of_length_le (l := s.toList) (i := 5000) (by omega), List.take_of_length_le (l := s.toList) (i := 300) (by omega)])
theorem cut_k (s : ByteArray) (w : World) (hs : s.size ≤ 9223372036854775807) : Calls Try.prog 8 #[.string s] w fun e w' => e = .returned (.string (cutL s)) ∧ w = w' :=
  (cut_any s w hs).mono fun _ _ ⟨a, b⟩ => ⟨a, b.symm⟩
theorem jn_len : ∀ (xs : List ByteArray), (∀ x ∈ xs, x.size ≤ 300) → (jn xs).length ≤ 301 * xs.length
  | [], _ => by simp [jn_nil]
  | [x], h => by rw [jn_one, size_toList]; have := h x (by simp); simp; omega
  | x :: y :: r, h => by
    have ih := jn_len (y :: r) (fun z hz => h z (by simp [hz]))
    have hx := h x (by simp)
    have e : jn (x :: y :: r) = x.toList ++ [47] ++ jn (y :: r) := join_cc _ _ _ _
    rw [e, List.length_append, List.length_append, size_toList]
    simp at ih ⊢
    omega
theorem short_snoc (xs : List ByteArray) (k : Nat) (x : ByteArray) (hk : xs[k]? = some x) : (xs.take (k + 1)).map shortL = (xs.take k).map shortL ++ [shortL x] := by
  rw [List.take_add_one, hk]; simp

/-- The few texts that are joined, and what is below them. -/
def FewIn (xs : List ByteArray) (w0 : World) (k : Nat) (v : Value) (w : World) : Prop := w.ownsRow w0.heap.size 9 1 v k (sv ((xs.take k).map shortL)) ∧ Below w0.heap.size w0 w

set_option maxRecDepth 20000 in
set_option maxHeartbeats 4000000 in
theorem pathJoins_walk (A : Option Addr) (n c : Nat) (xs : List ByteArray) (w : World) (hx : xs.length = n) (hc : n ≤ c) (hm : c ≤ 9223372036854775807) (hr : Rd w A (xs.map Value.string)) (hz : ∀ s ∈ xs, s.size ≤ 9223372036854775807) :
    Calls Try.prog 6 #[.slice A n c] w (Yes w) := by
  have Hx := Lib.hid hx
  have Hz := Lib.hid hz
  have hr' : Rd w A (sv xs) := hr
  clear hx hz hr
  go_enter Try.func6, Try.ntmps6
  go_wp2_with fail
  go_loopw [3, 4] (fun v i wr => ∃ k : Nat, k ≤ n ∧ k ≤ 50 ∧ i = .int .i64 k ∧ FewIn xs w k v wr) (fun _ i _ => n - (intOf i).toNat)
  case atStart => exact ⟨0, by omega, by omega, rfl, World.ownsRow_nil _ _ _ _, Below.refl _ _⟩
  case round =>
    obtain ⟨k, hk, hk5, rfl, hown, hb⟩ := hrel
    have hsz := hb.size
    by_cases hlt : k < n ∧ k < 50
    · obtain ⟨hlt, h50⟩ := hlt
      have hkx : k < xs.length := by rw [Hx.out]; exact hlt
      have hrw : Rd wr A (sv xs) := hr'.keep fun b o v hv => by rw [hb.cell (World.block_lt_of_cell? w _ hv)]; exact hv
      obtain ⟨b, o, rfl, hcell⟩ := hrw.at_ (by rw [sv_length]; exact hkx)
      obtain ⟨x, hx⟩ : ∃ x, xs[k] = x := ⟨_, rfl⟩
      have hcell' : wr.cell? ⟨b, o + k, none⟩ = some (.string x) := by rw [hcell]; simp [sv, hx]
      have hxs : x.size ≤ 9223372036854775807 := Hz.out x (by rw [← hx]; exact List.getElem_mem _)
      have H := Lib.hid (short_snoc xs k x (by rw [List.getElem?_eq_getElem hkx, hx]))
      clear hcell hx hkx hrw
      by_cases hbig : 300 < (cutL x).size
      · have e1 := short_big x
        go_wp2_with fail
        (refine (cut_k x _ hxs).mono ?_)
        rintro e w1 ⟨rfl, rfl⟩
        generalize cutL x = y at *
        generalize shortL x = z at *
        go_wp2_with (at_builtin; go_must (refine wpList_append_new wr rfl (.tmp 30) (.tmp 32) 29 rfl w.heap.size 9 1 16 el_str _ _ _ hown rfl _ rfl rfl (by intro u hu; simp at hu; subst hu; rfl) (by unfold maxLen; omega) (by omega) (by omega) ?_); intro v2 w2 hown2 hb2)
        go_roundw
        case rel => exact ⟨k + 1, by omega, by omega, by go_num, by rw [H.out, ← sv_snoc]; exact hown2, hb.trans hb2⟩
        case measure => simp [intOf]; omega
      · have e1 := short_small x hbig
        go_wp2_with fail
        (refine (cut_k x _ hxs).mono ?_)
        rintro e w1 ⟨rfl, rfl⟩
        rw [e1] at hbig ⊢
        clear e1
        generalize shortL x = z at *
        go_wp2_with (at_builtin; go_must (refine wpList_append_new wr rfl (.tmp 30) (.tmp 32) 29 rfl w.heap.size 9 1 16 el_str _ _ _ hown rfl _ rfl rfl (by intro u hu; simp at hu; subst hu; rfl) (by unfold maxLen; omega) (by omega) (by omega) ?_); intro v2 w2 hown2 hb2)
        go_roundw
        case rel => exact ⟨k + 1, by omega, by omega, by go_num, by rw [H.out, ← sv_snoc]; exact hown2, hb.trans hb2⟩
        case measure => simp [intOf]; omega
    · obtain ⟨F, hF⟩ : ∃ F, (xs.take k).map shortL = F := ⟨_, rfl⟩
      have hFl : F.length = k := by rw [← hF, List.length_map, List.length_take, Hx.out]; omega
      have hFz : (jn F).length ≤ 301 * k := by
        have := jn_len F (fun y hy => by
          rw [← hF] at hy
          obtain ⟨s, _, rfl⟩ := List.mem_map.1 hy
          exact shortL_size s)
        rwa [hFl] at this
      rw [hF] at hown
      obtain ⟨_, A1, c1, rfl, hc1, hc2, hrd⟩ := Sl.own hown
      obtain ⟨S, hS⟩ : ∃ S, joinS F = S := ⟨_, rfl⟩
      obtain ⟨E, hE⟩ : ∃ E, joinE F = E := ⟨_, rfl⟩
      have HS := Lib.hid hS
      have HE := Lib.hid hE
      have HF := Lib.hid hFl
      have hc3 : c1 ≤ 9223372036854775807 := hc2
      clear hF hFl hS hE hown
      have fin : ∀ (W : World), W = wr → True := fun _ _ => trivial
      clear fin
      by_cases h1 : k < n
      · have h2 : ¬ k < 50 := by omega
        clear hlt
        go_wp2_with fail
        (with_reducible refine (join_k A1 k c1 F S E _ HS.out HE.out HF.out hc1 hrd (by omega) (by omega)).mono ?_)
        rintro e w3 ⟨rfl, h3⟩
        have hr3 := hrd.below h3
        have b3 := below_then hb h3 hb.size
        clear h3 hrd
        go_wp2_with fail
        (with_reducible refine (joinR_k A1 k c1 F S E _ HS.out HE.out HF.out hr3 (by omega) (by omega)).mono ?_)
        rintro e w4 ⟨rfl, h4⟩
        have b4 := bl b3 h4
        clear h4 hr3
        go_wp2_with fail
        (with_reducible refine (awakeP_any _).mono ?_)
        rintro e w6 ⟨rfl, h6⟩
        go_wp2_with fail
        go_ret
        exact ⟨rfl, bl b4 h6⟩
      · clear hlt
        go_wp2_with fail
        (with_reducible refine (join_k A1 k c1 F S E _ HS.out HE.out HF.out hc1 hrd (by omega) (by omega)).mono ?_)
        rintro e w3 ⟨rfl, h3⟩
        have hr3 := hrd.below h3
        have b3 := below_then hb h3 hb.size
        clear h3 hrd
        go_wp2_with fail
        (with_reducible refine (joinR_k A1 k c1 F S E _ HS.out HE.out HF.out hr3 (by omega) (by omega)).mono ?_)
        rintro e w4 ⟨rfl, h4⟩
        have b4 := bl b3 h4
        clear h4 hr3
        go_wp2_with fail
        (with_reducible refine (awakeP_any _).mono ?_)
        rintro e w6 ⟨rfl, h6⟩
        go_wp2_with fail
        go_ret
        exact ⟨rfl, bl b4 h6⟩
end Go.Proofs.Ytfgneoalofnmaaa
