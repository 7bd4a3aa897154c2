/-
  The walks of the reference's Split and May.
-/
import Derived.Test.YtnhbkfefpkocaaaPathC
namespace Go.Proofs.Ytnhbkfefpkocaaa
open Go.RowKit

theorem Try.info9 : (Try.prog.info? 9).map (fun i => (i.zero, i.size, i.bytes)) = some (some (.string ⟨#[]⟩), 1, 16) := by kernel_rfl
theorem el_str : El Try.prog 101 9 1 16 := El.mk_ (z := .string ⟨#[]⟩) Try.underlying101 Try.info9 (by omega) rfl
/-- Texts as the cells of a slice. -/
def tv (L : List (List UInt8)) : List Value := L.map fun x => Value.string (ofL x)
theorem tv_snoc (L : List (List UInt8)) (x : List UInt8) : tv L ++ [Value.string (ofL x)] = tv (L ++ [x]) := by simp [tv]
theorem tv_length (L : List (List UInt8)) : (tv L).length = L.length := by simp [tv]
/-- The sizes while a text is split. -/
theorem foldP_le (p : List UInt8) : (foldP p).1.length ≤ p.length ∧ (foldP p).2.length ≤ p.length := by
  suffices h : ∀ (p : List UInt8) (a : List (List UInt8) × List UInt8), (p.foldl stepP a).1.length ≤ a.1.length + p.length ∧ (p.foldl stepP a).2.length ≤ a.2.length + p.length from by have := h p ([], []); simp at this; exact this
  intro p
  induction p with
  | nil => intro a; simp
  | cons c p ih =>
    intro a
    have := ih (stepP a c)
    unfold stepP at this ⊢
    simp only [List.foldl_cons, List.length_cons]
    split at this
    · rename_i hc
      simp only [hc, if_true] at this ⊢
      simp at this ⊢
      omega
    · rename_i hc
      simp only [hc, if_false] at this ⊢
      simp at this ⊢
      omega

set_option maxRecDepth 20000 in
set_option maxHeartbeats 2000000 in
theorem split_any (p : ByteArray) (w : World) (hs : p.size ≤ 100000000) :
    Calls Try.prog 78 #[.string p] w (RetS w (spl p.toList).length (tv (spl p.toList))) := by
  go_enter Try.func78, Try.ntmps78
  go_wp2_with fail
  go_loopw [3, 4, 5] (fun v t i wr => ∃ (k : Nat) (L : List (List UInt8)) (s : List UInt8), k ≤ p.size ∧ i = .int .i64 k ∧ Hid (foldP (p.toList.take k) = (L, s)) ∧ t = .string (ofL s) ∧ wr.ownsRow w.heap.size 9 1 v L.length (tv L) ∧ Below w.heap.size w wr) (fun _ _ i _ => p.size - (intOf i).toNat)
  case atStart => exact ⟨0, [], [], by omega, rfl, Lib.hid rfl, rfl, World.ownsRow_nil _ _ _ _, Below.refl _ _⟩
  case round =>
    obtain ⟨k, L, s, hk, rfl, hf, rfl, hown, hb⟩ := hrel
    have hle := foldP_le (p.toList.take k)
    rw [hf.out, List.length_take, size_toList] at hle
    have hl1 : L.length ≤ 100000000 := by have := hle.1; simp at this; omega
    have hl2 : s.length ≤ 100000000 := by have := hle.2; simp at this; omega
    have hsz := hb.size
    clear hle
    by_cases hlt : k < p.size
    · have hstep : foldP (p.toList.take (k + 1)) = stepP (L, s) p[k] := by
        rw [List.take_succ_eq_append_getElem (by rw [size_toList]; exact hlt), foldP_snoc, hf.out, ← getElem_toList]
      by_cases hc : p[k] = 47
      · have H := Lib.hid (show foldP (p.toList.take (k + 1)) = (L ++ [s], []) by rw [hstep, stepP, if_pos hc])
        have hc' : p[k].toNat = 47 := by rw [hc]; rfl
        clear hstep hc
        go_wp2_with (at_builtin; go_must (refine wpList_append_new wr rfl (.tmp 16) (.tmp 18) 101 rfl w.heap.size 9 1 16 el_str _ _ _ hown rfl _ rfl rfl (by intro u hu; simp at hu; subst hu; rfl) (by unfold maxLen; omega) (by omega) (by omega) ?_); intro v2 w2 hown2 hb2)
        have hown3 : w2.ownsRow w.heap.size 9 1 v2 (L ++ [s]).length (tv (L ++ [s])) := by
          rw [← tv_snoc, List.length_append]; exact hown2
        go_roundw
        case rel => exact ⟨k + 1, L ++ [s], [], by omega, by go_num, H, rfl, hown3, hb.trans hb2⟩
        case measure => simp [intOf]; omega
      · have H := Lib.hid (show foldP (p.toList.take (k + 1)) = (L, s ++ [p[k]]) by rw [hstep, stepP, if_neg hc])
        have hc' : ¬ p[k].toNat = 47 := by
          intro e; exact hc (UInt8.toNat_inj.1 (by rw [e]; rfl))
        have hx : ofL s ++ p.extract k (k + 1) = ofL (s ++ [p[k]]) := str_eq (by
          rw [toList_app, toList_ofL, toList_ofL, toList_ext, List.drop_eq_getElem_cons (by rw [size_toList]; exact hlt), ← getElem_toList]; simp; exact hlt)
        have hx2 : ¬ (9223372036854775807 < (ofL s).size + (p.extract k (k + 1)).size) := by
          rw [size_ofL, ← size_toList, toList_ext, List.length_take]; omega
        clear hstep hc
        go_wp2_with fail
        go_roundw
        case rel => exact ⟨k + 1, L, s ++ [p[k]], by omega, by go_num, H, rfl, hown, hb⟩
        case measure => simp [intOf]; omega
    · obtain rfl : k = p.size := by omega
      have H : spl p.toList = L ++ [s] := by
        have h := hf.out
        rw [List.take_of_length_le (by rw [size_toList]; omega)] at h
        unfold spl; rw [h]
      have H' := Lib.hid H
      clear H hf
      go_wp2_with (at_builtin; go_must (refine wpList_append_new wr rfl (.tmp 27) (.tmp 29) 101 rfl w.heap.size 9 1 16 el_str _ _ _ hown rfl _ rfl rfl (by intro u hu; simp at hu; subst hu; rfl) (by unfold maxLen; omega) (by omega) (by omega) ?_); intro v2 w2 hown2 hb2)
      go_ret
      rw [H'.out]
      have hown3 : w2.ownsRow w.heap.size 9 1 v2 (L ++ [s]).length (tv (L ++ [s])) := by
        rw [← tv_snoc, List.length_append]; exact hown2
      exact RetS.own hown3 (hb.trans hb2) (Nat.le_refl _)

theorem may_true {p : ByteArray} (h1 : 1 ≤ p.size) (h2 : p.size ≤ 4096) (h3 : ∀ x ∈ p.toList, x ≠ 0) (h4 : ∀ x ∈ spl p.toList, partOk x = true) : pathOk p.toList = true :=
  decide_eq_true ⟨fun e => by rw [← size_toList, e] at h1; exact absurd h1 (by decide), by rw [size_toList]; omega, h3, h4⟩
theorem may_false {p : ByteArray} (h : ¬ (p.toList ≠ [] ∧ p.toList.length ≤ 4096 ∧ (∀ x ∈ p.toList, x ≠ 0) ∧ ∀ x ∈ spl p.toList, partOk x = true)) : pathOk p.toList = false := decide_eq_false h

set_option maxRecDepth 20000 in
set_option maxHeartbeats 2000000 in
theorem may_any (p : ByteArray) (w : World) (hs : p.size ≤ 100000000) :
    Calls Try.prog 52 #[.string p] w fun e w' => e = .returned (.bool (pathOk p.toList)) ∧ Below w.heap.size w w' := by
  by_cases h1 : (p.size : Int) < 1
  · have H := Lib.hid (show pathOk p.toList = false from may_false (fun h => h.1 (List.eq_nil_of_length_eq_zero (by rw [size_toList]; omega))))
    go_enter Try.func52, Try.ntmps52
    go_wp2
    go_ret
    exact ⟨by rw [H.out]; rfl, Below.refl _ _⟩
  · by_cases h2 : 4096 < (p.size : Int)
    · have H := Lib.hid (show pathOk p.toList = false from may_false (fun h => by have := h.2.1; rw [size_toList] at this; omega))
      go_enter Try.func52, Try.ntmps52
      go_wp2
      go_ret
      exact ⟨by rw [H.out]; rfl, Below.refl _ _⟩
    · go_enter Try.func52, Try.ntmps52
      go_wp2_with fail
      go_loop [3] (fun i => ∃ k : Nat, k ≤ p.size ∧ i = .int .i64 k ∧ Hid (∀ x ∈ p.toList.take k, x ≠ 0)) (fun i => p.size - (intOf i).toNat)
      case atStart => exact ⟨0, by omega, rfl, Lib.hid (by simp)⟩
      case round =>
        obtain ⟨k, hk, rfl, hf⟩ := hrel
        by_cases hlt : k < p.size
        · by_cases hc : p[k] = 0
          · have H := Lib.hid (show pathOk p.toList = false from may_false (fun h => h.2.2.1 p[k] (by rw [getElem_toList]; exact List.getElem_mem _) hc))
            have hc' : p[k].toNat = 0 := by rw [hc]; rfl
            clear hc
            go_wp2_with fail
            go_ret
            exact ⟨by rw [H.out]; rfl, Below.refl _ _⟩
          · have H := Lib.hid (show ∀ x ∈ p.toList.take (k + 1), x ≠ 0 by
              rw [List.take_succ_eq_append_getElem (by rw [size_toList]; exact hlt), ← getElem_toList]
              intro x hx
              rcases List.mem_append.1 hx with h | h
              · exact hf.out x h
              · simp at h; subst h; exact hc)
            have hc' : ¬ p[k].toNat = 0 := by
              intro e; exact hc (UInt8.toNat_inj.1 (by rw [e]; rfl))
            clear hc
            go_wp2_with fail
            go_round
            case rel => exact ⟨k + 1, by omega, by go_num, H⟩
            case measure => simp [intOf]; omega
        · obtain rfl : k = p.size := by omega
          have H3 := Lib.hid (show ∀ x ∈ p.toList, x ≠ 0 by
            have := hf.out
            rwa [List.take_of_length_le (by rw [size_toList]; omega)] at this)
          clear hf
          go_wp2_with fail
          refine (split_any p _ hs).mono ?_
          rintro e w1 ⟨A, c, rfl, hc1, hc2, hrd, hfr, hb⟩
          have hlen : (spl p.toList).length ≤ 9223372036854775807 := by unfold maxLen at hc2; omega
          have HL := Lib.hid hlen
          obtain ⟨Lp, hLp⟩ : ∃ Lp, spl p.toList = Lp := ⟨_, rfl⟩
          have HP := Lib.hid hLp
          rw [hLp] at hrd hc1 hlen HL ⊢
          clear hLp
          go_wp2_with fail
          go_loop [5] (fun i => ∃ k : Nat, k ≤ Lp.length ∧ i = .int .i64 k ∧ Hid (∀ x ∈ Lp.take k, partOk x = true)) (fun i => Lp.length - (intOf i).toNat)
          case atStart => exact ⟨0, by omega, rfl, Lib.hid (by simp)⟩
          case round =>
            obtain ⟨k, hk', rfl, hf⟩ := hrel
            by_cases hl : k < Lp.length
            · obtain ⟨b, o, rfl, hcell⟩ := hrd.at_ (by rw [tv_length]; exact hl)
              obtain ⟨x, hx⟩ : ∃ x, ofL Lp[k] = x := ⟨_, rfl⟩
              have hx' : Lp[k] = x.toList := by rw [← hx, toList_ofL]
              have hcell' : w1.cell? ⟨b, o + k, none⟩ = some (.string x) := by
                rw [hcell]; simp [tv, hx]
              by_cases ho : partOk x.toList = true
              · have H := Lib.hid (show ∀ y ∈ Lp.take (k + 1), partOk y = true by
                  rw [List.take_succ_eq_append_getElem hl]
                  intro y hy
                  rcases List.mem_append.1 hy with h | h
                  · exact hf.out y h
                  · simp at h; subst h; rw [hx']; exact ho)
                have h' : ¬ (x.toList = [] ∨ x.toList = [46] ∨ x.toList = [46, 46]) := of_decide_eq_true ho
                have t1 : (x.toList == ([] : List UInt8)) = false := by rw [beq_eq_false_iff_ne]; intro e; exact h' (.inl e)
                have t2 : (x.toList == ([46] : List UInt8)) = false := by rw [beq_eq_false_iff_ne]; intro e; exact h' (.inr (.inl e))
                have t3 : (x.toList == ([46, 46] : List UInt8)) = false := by rw [beq_eq_false_iff_ne]; intro e; exact h' (.inr (.inr e))
                clear h' ho hx hx' hcell
                go_wp2_with fail
                go_round
                case rel => exact ⟨k + 1, by omega, by go_num, H⟩
                case measure => simp [intOf]; omega
              · have H := Lib.hid (show pathOk p.toList = false from may_false (fun h => ho (by rw [← hx']; exact h.2.2.2 _ (by rw [HP.out]; exact List.getElem_mem _))))
                have h' : x.toList = [] ∨ x.toList = [46] ∨ x.toList = [46, 46] := by
                  apply Classical.byContradiction; intro h; exact ho (decide_eq_true h)
                clear hx hx' hcell ho
                by_cases e1 : x.toList = []
                · have t1 : (x.toList == ([] : List UInt8)) = true := by rw [beq_iff_eq]; exact e1
                  clear e1 h'
                  go_wp2_with fail
                  go_ret
                  exact ⟨by rw [H.out]; rfl, hb⟩
                · have t1 : (x.toList == ([] : List UInt8)) = false := by rw [beq_eq_false_iff_ne]; exact e1
                  by_cases e2 : x.toList = [46]
                  · have t2 : (x.toList == ([46] : List UInt8)) = true := by rw [beq_iff_eq]; exact e2
                    clear e1 e2 h'
                    go_wp2_with fail
                    go_ret
                    exact ⟨by rw [H.out]; rfl, hb⟩
                  · have t2 : (x.toList == ([46] : List UInt8)) = false := by rw [beq_eq_false_iff_ne]; exact e2
                    have t3 : (x.toList == ([46, 46] : List UInt8)) = true := by rw [beq_iff_eq]; exact (h'.resolve_left e1).resolve_left e2
                    clear e1 e2 h'
                    go_wp2_with fail
                    go_ret
                    exact ⟨by rw [H.out]; rfl, hb⟩
            · obtain rfl : k = Lp.length := by omega
              have H := Lib.hid (show pathOk p.toList = true from may_true (by omega) (by omega) H3.out (by
                have := hf.out
                rw [List.take_of_length_le (Nat.le_refl _)] at this
                rw [HP.out]; exact this))
              go_wp2_with fail
              go_ret
              exact ⟨by rw [H.out]; rfl, hb⟩
end Go.Proofs.Ytnhbkfefpkocaaa
