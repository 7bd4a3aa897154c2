/-
  The walks of the reference's Join and of SameTexts.
-/
import Derived.Test.YtfgneoalofnmaaaPathH
import Derived.Test.YtfgneoalofnmaaaPathE
namespace Go.Proofs.Ytfgneoalofnmaaa
open Go.RowKit

theorem jn_mem (xs : List ByteArray) (k : Nat) (h : k < xs.length) : xs[k].size ≤ (jn xs).length := by
  refine Nat.le_trans ?_ (jn_take_le xs (k + 1))
  rw [List.take_succ_eq_append_getElem h]
  by_cases h0 : xs.take k = []
  · rw [h0, List.nil_append, jn_one, size_toList]; exact Nat.le_refl _
  · rw [jn_snoc _ _ h0, List.length_append, List.length_cons, size_toList]; omega

set_option maxRecDepth 20000 in
set_option maxHeartbeats 4000000 in
theorem joinR_any (A : Option Addr) (n c : Nat) (xs : List ByteArray) (w : World) (hx : xs.length = n) (hr : Rd w A (sv xs)) (hn : n ≤ 1000000) (hz : (jn xs).length ≤ 1000000) :
    Calls Try.prog 17 #[.slice A n c] w fun e w' => e = .returned (.tuple #[.string (joinS xs), .int .i64 (joinE xs)]) ∧ Below w.heap.size w w' := by
  obtain ⟨S, hS⟩ : ∃ S, joinS xs = S := ⟨_, rfl⟩
  obtain ⟨E, hE⟩ : ∃ E, joinE xs = E := ⟨_, rfl⟩
  have HS := Lib.hid hS
  have HE := Lib.hid hE
  rw [hS, hE]
  clear hS hE
  have Hx := Lib.hid hx
  clear hx
  go_enter Try.func17, Try.ntmps17
  go_wp2_with fail
  go_loopw [4, 5] (fun v i wr => ∃ (k : Nat) (T : ByteArray), k ≤ n ∧ i = .int .i64 k ∧ v = .string T ∧ Hid (T.toList = jn (xs.take k)) ∧ Hid (∀ x ∈ xs.take k, noSl x.toList = true) ∧ Below w.heap.size w wr) (fun _ i _ => n - (intOf i).toNat)
  case atStart => exact ⟨0, ⟨#[]⟩, by omega, rfl, rfl, Lib.hid (by rw [toList_nil]; rfl), Lib.hid (by simp), Below.refl _ _⟩
  case round =>
    obtain ⟨k, T, hk, rfl, rfl, hT, hf, hb⟩ := hrel
    by_cases hlt : k < n
    · have hkx : k < xs.length := by rw [Hx.out]; exact hlt
      have hrw : Rd wr A (sv xs) := hr.keep fun b o v hv => by rw [hb.cell (World.block_lt_of_cell? w _ hv)]; exact hv
      obtain ⟨b, o, rfl, hcell⟩ := hrw.at_ (by rw [sv_length]; exact hkx)
      have hsize := jn_mem xs k hkx
      obtain ⟨x, hx⟩ : ∃ x, xs[k] = x := ⟨_, rfl⟩
      rw [hx] at hsize
      have hcell' : wr.cell? ⟨b, o + k, none⟩ = some (.string x) := by rw [hcell]; simp [sv, hx]
      have hmem : x ∈ xs := by rw [← hx]; exact List.getElem_mem _
      have hst : xs.take (k + 1) = xs.take k ++ [x] := by rw [List.take_succ_eq_append_getElem hkx, hx]
      have hT1 := jn_take_le xs k
      have hT2 := jn_take_le xs (k + 1)
      have Hst := Lib.hid hst
      have Hmem := Lib.hid hmem
      clear hcell hx hst hmem hkx
      cases ho : noSl x.toList with
      | true =>
        have H := Lib.hid (show ∀ y ∈ xs.take (k + 1), noSl y.toList = true by
          rw [Hst.out]
          intro y hy
          rcases List.mem_append.1 hy with h | h
          · exact hf.out y h
          · simp at h; subst h; exact ho)
        have hsp : ¬ 1 < (spl x.toList).length := by
          have h := spl_len x.toList
          rw [ho] at h
          exact of_decide_eq_false h
        rw [← hT.out, size_toList] at hT1
        clear ho
        by_cases h0 : 0 < k
        · have hT3 : (T ++ ⟨#[47]⟩ ++ x).toList = jn (xs.take (k + 1)) := by
            rw [toList_app, toList_app, hT.out, Hst.out, jn_snoc _ _ (fun e => by
              have : (xs.take k).length = 0 := by rw [e]; rfl
              rw [List.length_take, Hx.out] at this; omega)]
            simp [ByteArray.toList_eq]
          rw [← hT3, size_toList] at hT2
          obtain ⟨T1, e1⟩ : ∃ T1, T ++ ⟨#[47]⟩ = T1 := ⟨_, rfl⟩
          rw [e1] at hT3 hT2
          obtain ⟨T2, e2⟩ : ∃ T2, T1 ++ x = T2 := ⟨_, rfl⟩
          rw [e2] at hT3 hT2
          have n1 : ¬ (9223372036854775807 < T.size + 1) := by omega
          have n1' : ¬ (9223372036854775807 < T.size + (⟨#[47]⟩ : ByteArray).size) := by have : (⟨#[47]⟩ : ByteArray).size = 1 := rfl; omega
          have hT1s : T1.size = T.size + 1 := by rw [← e1, ByteArray.size_append]; rfl
          have n2 : ¬ (9223372036854775807 < T1.size + x.size) := by omega
          have H3 := Lib.hid hT3
          clear hT3 hT hT1s
          go_wp2_with fail
          refine (split_any x _ (by omega)).mono ?_
          rintro e w1 ⟨A1, c1, rfl, hc1, hc2, hrd, hfr, hb1⟩
          have hr1 : w1.cell? ⟨b, o + k, none⟩ = some (.string x) := by
            rw [hb1.cell (World.block_lt_of_cell? wr _ hcell')]; exact hcell'
          have hb2 := below_then hb hb1 hb.size
          clear hrd hfr hb1
          generalize (spl x.toList).length = Ln at *
          go_wp2_with fail
          go_roundw
          case rel => exact ⟨k + 1, T2, by omega, by go_num, rfl, H3, H, hb2⟩
          case measure => simp [intOf]; omega
        · obtain rfl : k = 0 := by omega
          have hcell0 : wr.cell? ⟨b, o, none⟩ = some (.string x) := hcell'
          have hT0 : T = ⟨#[]⟩ := str_eq (by rw [hT.out, toList_nil]; rfl)
          subst hT0
          have hT3 : x.toList = jn (xs.take 1) := by
            have := Hst.out
            rw [Nat.zero_add] at this
            rw [this, List.take_zero, List.nil_append, jn_one]
          have e1 : (⟨#[]⟩ : ByteArray) ++ x = x := str_eq (by rw [toList_app, toList_nil, List.nil_append])
          have n2 : ¬ (9223372036854775807 < (⟨#[]⟩ : ByteArray).size + x.size) := by have : (⟨#[]⟩ : ByteArray).size = 0 := rfl; omega
          have n2' : ¬ (9223372036854775807 < x.size) := by omega
          have H3 := Lib.hid hT3
          clear hT3 hT
          go_wp2_with fail
          refine (split_any x _ (by omega)).mono ?_
          rintro e w1 ⟨A1, c1, rfl, hc1, hc2, hrd, hfr, hb1⟩
          have hr1 : w1.cell? ⟨b, o + 0, none⟩ = some (.string x) := by
            rw [hb1.cell (World.block_lt_of_cell? wr _ hcell')]; exact hcell'
          have hr2 : w1.cell? ⟨b, o, none⟩ = some (.string x) := hr1
          have hb2 := below_then hb hb1 hb.size
          clear hrd hfr hb1
          generalize (spl x.toList).length = Ln at *
          go_wp2_with fail
          go_roundw
          case rel => exact ⟨1, x, by omega, by go_num, rfl, H3, H, hb2⟩
          case measure => simp [intOf]; omega
      | false =>
        obtain ⟨e1, e2⟩ := join_bad (xs := xs) (fun h => by have := h.1 x Hmem.out; rw [ho] at this; cases this)
        rw [HS.out] at e1
        rw [HE.out] at e2
        have hsp : 1 < (spl x.toList).length := by
          have h := spl_len x.toList
          rw [ho] at h
          exact of_decide_eq_true h
        clear ho
        subst e1
        subst e2
        clear HS HE
        go_wp2_with fail
        refine (split_any x _ (by omega)).mono ?_
        rintro e w1 ⟨A1, c1, rfl, hc1, hc2, hrd, hfr, hb1⟩
        have hb2 := below_then hb hb1 hb.size
        clear hrd hfr hb1
        generalize (spl x.toList).length = Ln at *
        go_wp2_with fail
        go_ret2
        exact ⟨rfl, hb2⟩
    · obtain rfl : k = n := by omega
      have htk : xs.take k = xs := List.take_of_length_le (by rw [Hx.out]; exact Nat.le_refl _)
      have Hall := Lib.hid (show ∀ x ∈ xs, noSl x.toList = true by
        have := hf.out
        rwa [htk] at this)
      have hT4 := hT.out
      rw [htk] at hT4
      have hTs : T.size ≤ 1000000 := by rw [← size_toList, hT4]; exact hz
      have HT := Lib.hid hT4
      clear hT4 htk hf hT
      cases hp : pathOk (jn xs) with
      | true =>
        obtain ⟨e1, e2⟩ := join_good ⟨Hall.out, hp⟩
        rw [HS.out] at e1
        rw [HE.out] at e2
        have e3 : T = S := by rw [e1, ← HT.out, ofL_toList]
        subst e3
        subst e2
        have Hm := Lib.hid (show pathOk T.toList = true by rw [HT.out, hp])
        clear hp HS HE e1
        go_wp2_with fail
        (with_reducible refine (may_k T true Hm.out hTs _).mono ?_)
        rintro e w2 ⟨rfl, hb2⟩
        go_wp2_with fail
        go_ret2
        exact ⟨rfl, below_then hb hb2 hb.size⟩
      | false =>
        obtain ⟨e1, e2⟩ := join_bad (xs := xs) (fun h => by rw [hp] at h; cases h.2)
        rw [HS.out] at e1
        rw [HE.out] at e2
        subst e1
        subst e2
        have Hm := Lib.hid (show pathOk T.toList = false by rw [HT.out, hp])
        clear hp HS HE
        go_wp2_with fail
        (with_reducible refine (may_k T false Hm.out hTs _).mono ?_)
        rintro e w2 ⟨rfl, hb2⟩
        go_wp2_with fail
        go_ret2
        exact ⟨rfl, below_then hb hb2 hb.size⟩
end Go.Proofs.Ytfgneoalofnmaaa
