/-
  The walk of path.Check.
-/
import Derived.Test.YtnhbkfefpkocaaaPathA
namespace Go.Proofs.Ytnhbkfefpkocaaa
open Go.RowKit Go.Shelf
attribute [local go_sem] Oper.semAt_some

theorem parts_any (p : ByteArray) (w : World) :
    Calls Try.prog 63 #[.string p] w fun e w' => e = .returned (.func (.func 88) #[] #[.pointer (some ⟨w.heap.size, 0, none⟩)]) ∧ w' = w.alloc (.cells #[.string p] 9) := by
  go_enter Try.func63, Try.ntmps63
  go_wp2
  go_ret
  exact ⟨rfl, rfl⟩

theorem idx0 (p : List UInt8) : decide (0 ≤ Lib.indexByte p 0) = decide (∃ x ∈ p, x = 0) := by
  rw [decide_eq_decide]
  have hg := Lib.indexByte_ge p 0
  constructor
  · intro h
    obtain ⟨i, hi⟩ : ∃ i : Nat, Lib.indexByte p 0 = i := ⟨(Lib.indexByte p 0).toNat, by omega⟩
    exact ⟨0, List.mem_iff_getElem?.2 ⟨i, (Lib.indexByte_some hi).1⟩, rfl⟩
  · rintro ⟨x, hx, rfl⟩
    apply Classical.byContradiction
    intro h
    obtain ⟨k, hk⟩ := List.mem_iff_getElem?.1 hx
    exact Lib.indexByte_none (by omega) k hk

theorem bides_and {Bn B : Nat} (p : List ByteArray → Prop) {I : List ByteArray → World → Prop} (h : Bides Bn B I) : Bides Bn B (fun s W => p s ∧ I s W) := fun s W W' hs ht => ⟨hs.1, h s W W' hs.2 ht⟩
theorem bides_bk {Bn B g n₀ : Nat} {t : TypeId} {cs : Array Value} {w₀ : World} (hg : g ≠ Bn) (hn : n₀ ≤ w₀.heap.size) (hBn : n₀ ≤ Bn) (hB : n₀ ≤ B) : Bides Bn B (fun _ W => Bk W g t cs ∧ Below n₀ w₀ W) := by
  refine bides_below' (I := fun _ W => Bk W g t cs) ?_ hn hBn hB
  rintro s W W' hk ⟨row, hr, h⟩
  refine (hr.block g hk.lt ?_).trans hk
  intro e
  rcases h g e.symm with h | ⟨_, o, ho, hc⟩
  · exact hg h
  · rw [show W.heap[g]? = _ from hk] at ho; cases ho; cases hc

/-- What path.Check tells. -/
def okP (p : ByteArray) : Int := if pathOk p.toList then 0 else 5
theorem okP_bad {p : ByteArray} (h : ¬ (p.toList ≠ [] ∧ p.toList.length ≤ 4096 ∧ (∀ x ∈ p.toList, x ≠ 0) ∧ ∀ x ∈ spl p.toList, partOk x = true)) : okP p = 5 := by
  unfold okP pathOk; rw [decide_eq_false h]; rfl

set_option maxRecDepth 20000 in
set_option maxHeartbeats 2000000 in
theorem check_any (p : ByteArray) (w : World) (hs : p.size ≤ 9223372036854775807) :
    Calls Try.prog 36 #[.string p] w fun e w' => e = .returned (.int .i64 (okP p)) ∧ Below w.heap.size w w' := by
  have hb0 := (Below.refl w.heap.size w).alloc (Nat.le_refl _) (.cells #[.int .i64 0] 38)
  have hR0 : Bk (w.alloc (.cells #[.int .i64 0] 38)) w.heap.size 38 #[.int .i64 0] := Bk.new _ _ _
  obtain ⟨k, hk⟩ : ∃ k, okP p = k := ⟨_, rfl⟩
  by_cases h1 : p.size = 0
  · have H := Lib.hid (show okP p = 5 from okP_bad (fun h => h.1 (List.eq_nil_of_length_eq_zero (by rw [size_toList]; exact h1))))
    have hp : p = ⟨#[]⟩ := str_eq (by rw [toList_nil]; exact List.eq_nil_of_length_eq_zero (by rw [size_toList]; exact h1))
    subst hp
    clear h1
    go_enter Try.func36, Try.ntmps36
    go_wp2_with fail
    exact bodyPost_ret (v := .int .i64 5) (by simp [results, Try.results36, go_sem]) rfl ⟨by rw [H.out], (Below.refl w.heap.size w).alloc (Nat.le_refl _) _⟩
  · have hne : (p.toList == ([] : List UInt8)) = false := by
      rw [beq_eq_false_iff_ne]; intro e; rw [← size_toList, e] at h1; exact h1 rfl
    by_cases h2 : 4096 < (p.size : Int)
    · have H := Lib.hid (show okP p = 5 from okP_bad (fun h => by have := h.2.1; rw [size_toList] at this; omega))
      clear h1
      go_enter Try.func36, Try.ntmps36
      go_wp2_with fail
      exact bodyPost_ret (v := .int .i64 5) (by simp [results, Try.results36, go_sem]) rfl ⟨by rw [H.out], (Below.refl w.heap.size w).alloc (Nat.le_refl _) _⟩
    · by_cases h3 : ∃ x ∈ p.toList, x = 0
      · have H := Lib.hid (show okP p = 5 from okP_bad (fun h => by obtain ⟨x, hx, hx0⟩ := h3; exact h.2.2.1 x hx hx0))
        have hc := decide_eq_true h3
        clear h1
        go_enter Try.func36, Try.ntmps36
        go_wp2_with (go_at_call 62; refine (Try.strings_Contains_one p 0 _).mono ?_; rintro e w' ⟨rfl, rfl⟩; rw [toList_data, idx0, hc])
        exact bodyPost_ret (v := .int .i64 5) (by simp [results, Try.results36, go_sem]) rfl ⟨by rw [H.out], (Below.refl w.heap.size w).alloc (Nat.le_refl _) _⟩
      · have hc := decide_eq_false h3
        refine (callsIn_wide (n := 2)).1 ?_
        refine callsIn_of_wp_marks Try.func36 rfl trivial ?_
        simp only [Try.ntmps36, List.size_toArray, List.length_cons, List.length_nil, Nat.reduceAdd, Nat.reduceSub, Array.replicate_succ, Array.replicate_zero, List.push_toArray, List.append_toArray, List.nil_append, List.cons_append]
        gi_wp2_with fail
        refine ⟨trivial, (callsIn_wide.2 (Try.strings_Contains_one p 0 _)).mono ?_⟩
        rintro e w1 ⟨rfl, rfl⟩
        rw [toList_data, idx0, hc]
        gi_wp2_with fail
        refine ⟨trivial, (callsIn_wide.2 (parts_any p _)).mono ?_⟩
        rintro e w1 ⟨rfl, rfl⟩
        simp only [World.size_alloc]
        gi_wp2_with fail
        have hR1 : Bk ((w.alloc (.cells #[.int .i64 0] 38)).alloc (.cells #[.string p] 9)) w.heap.size 38 #[.int .i64 0] := hR0.alloc _
        have hP1 : Bk ((w.alloc (.cells #[.int .i64 0] 38)).alloc (.cells #[.string p] 9)) (w.heap.size + 1) 9 #[.string p] := by
          have h := Bk.new (w.alloc (.cells #[.int .i64 0] 38)) 9 #[.string p]
          rw [World.size_alloc] at h
          exact h
        have hb1 := hb0.alloc (by simp) (.cells #[.string p] 9)
        have hz1 : ((w.alloc (.cells #[.int .i64 0] 38)).alloc (.cells #[.string p] 9)).heap.size = w.heap.size + 2 := by simp
        generalize (w.alloc (.cells #[.int .i64 0] 38)).alloc (.cells #[.string p] 9) = w1 at *
        have H1 := Lib.hid h1
        have H3 := Lib.hid h3
        clear h1 h3 hc hb0 hR0 hk k
        refine range_box (n := 2) rfl (enters_of Try.func88 (by kernel_rfl) rfl) rfl (w.heap.size + 1) (by omega) (splB p) (by rw [show w1.heap[w.heap.size + 1]? = _ from hP1]; exact parts_seq _ p hs _)
          (fun pre W => (∀ x ∈ pre, partOk x.toList = true) ∧ (Bk W w.heap.size 38 #[.int .i64 0] ∧ Below w.heap.size w W))
          (fun c _ W => (c = .ret ∧ okP p = 5) ∧ (Bk W w.heap.size 38 #[.int .i64 5] ∧ Below w.heap.size w W))
          (bides_and _ (bides_bk (by omega) (Nat.le_refl _) (by omega) (by omega)))
          (fun c => bides_and _ (bides_bk (by omega) (Nat.le_refl _) (by omega) (by omega)))
          ⟨by simp, hR1, hb1⟩
          (fun x => { tmps := #[.string p, undef, .pointer (some ⟨w.heap.size, 0, none⟩), .string x, .string p, .bool false, .bool false, .string p, .int .i64 ↑p.size, .bool false, .bool false, .bool false, .string p, .bool false, .bool false, .string p, .func (.func 88) #[] #[.pointer (some ⟨w.heap.size + 1, 0, none⟩)], .string x, undef, undef, undef, undef, undef, undef, undef, undef, undef, undef], defers := [] }) ?assign ?body ?done ?stop
        case assign =>
          intro l x W K hK
          gi_wp2
          exact hK
        case body =>
          rintro l pre x W ⟨hpre, hR, hb⟩ hx hsz
          have r0 : W.cell? ⟨w.heap.size, 0, none⟩ = some (.int .i64 0) := hR.cell 0
          have r1 := hR.frozen 0
          have hmem : x.toList ∈ spl p.toList := by
            have : x ∈ splB p := hx.subset (by simp)
            unfold splB at this
            obtain ⟨y, hy, rfl⟩ := List.mem_map.1 this
            rw [toList_ofL]; exact hy
          by_cases ho : partOk x.toList = true
          · have h' : ¬ (x.toList = [] ∨ x.toList = [46] ∨ x.toList = [46, 46]) := of_decide_eq_true ho
            have t1 : (x.toList == ([] : List UInt8)) = false := by rw [beq_eq_false_iff_ne]; intro e; exact h' (.inl e)
            have t2 : (x.toList == ([46] : List UInt8)) = false := by rw [beq_eq_false_iff_ne]; intro e; exact h' (.inr (.inl e))
            have t3 : (x.toList == ([46, 46] : List UInt8)) = false := by rw [beq_eq_false_iff_ne]; intro e; exact h' (.inr (.inr e))
            clear h' hmem
            gi_wp2
            exact ⟨(KeepsOthers.refl _).from _, rfl, fun y hy => (List.mem_append.1 hy).elim (hpre y) (fun e => by simp at e; subst e; exact ho), hR, hb⟩
          · have H := Lib.hid (show okP p = 5 from okP_bad (fun h => ho (h.2.2.2 _ hmem)))
            have hend : boxPost (w.heap.size + 1) w1.heap.size (fun pre W => (∀ x ∈ pre, partOk x.toList = true) ∧ (Bk W w.heap.size 38 #[.int .i64 0] ∧ Below w.heap.size w W))
              (fun c _ W => (c = .ret ∧ okP p = 5) ∧ (Bk W w.heap.size 38 #[.int .i64 5] ∧ Below w.heap.size w W)) (pre ++ [x]) W .ret { tmps := #[], defers := [] } (W.setCell ⟨w.heap.size, 0, none⟩ (.int .i64 5)) :=
              ⟨(KeepsOthers.setCell _ _ _).from _, ⟨rfl, H.out⟩, hR.set_ 0 _, hb.setCell (p := ⟨w.heap.size, 0, none⟩) (Nat.le_refl _) _⟩
            have h' : x.toList = [] ∨ x.toList = [46] ∨ x.toList = [46, 46] := by
              apply Classical.byContradiction; intro h; exact ho (decide_eq_true h)
            clear hmem
            by_cases e1 : x.toList = []
            · have t1 : (x.toList == ([] : List UInt8)) = true := by rw [beq_iff_eq]; exact e1
              clear e1 h' ho
              gi_wp2
              exact hend
            · have t1 : (x.toList == ([] : List UInt8)) = false := by rw [beq_eq_false_iff_ne]; exact e1
              by_cases e2 : x.toList = [46]
              · have t2 : (x.toList == ([46] : List UInt8)) = true := by rw [beq_iff_eq]; exact e2
                clear e1 e2 h' ho
                gi_wp2
                exact hend
              · have t2 : (x.toList == ([46] : List UInt8)) = false := by rw [beq_eq_false_iff_ne]; exact e2
                have t3 : (x.toList == ([46, 46] : List UInt8)) = true := by rw [beq_iff_eq]; exact (h'.resolve_left e1).resolve_left e2
                clear e1 e2 h' ho
                gi_wp2
                exact hend
        case done =>
          rintro D W hD ⟨hall, hR, hb⟩ hK
          have H := Lib.hid (show okP p = 0 by
            unfold okP pathOk
            rw [decide_eq_true]; rfl
            refine ⟨fun e => H1.out (by rw [← size_toList, e]; rfl), by rw [size_toList]; omega, fun x hx e => H3.out ⟨x, hx, e⟩, fun x hx => ?_⟩
            have := hall (ofL x) (by unfold splB; exact List.mem_map.2 ⟨x, hx, rfl⟩)
            rwa [toList_ofL] at this)
          clear hall
          have r0 : W.cell? ⟨w.heap.size, 0, none⟩ = some (.int .i64 0) := hR.cell 0
          have r1 := hR.frozen 0
          have hK' := (KeepsOthers.setCell W ⟨w.heap.size, 0, none⟩ (.int .i64 0)).same D _ hK rfl
          have hR2 : Bk (W.setCell ⟨w.heap.size, 0, none⟩ (.int .i64 0)) w.heap.size 38 #[.int .i64 0] := hR.set_ 0 _
          have hb2 := hb.setCell (p := ⟨w.heap.size, 0, none⟩) (Nat.le_refl _) (.int .i64 0)
          gi_wp2
          refine ⟨by simp, .inl ⟨_, _, rfl, run_takeDeferred hK', ?_⟩⟩
          have hc5 := cell_kept (hR2.cell 0) (grownBy_putObj' _ D (.deferred none)) (fun r e => by cases e; exact ⟨_, hK', rfl⟩)
          refine ⟨.int .i64 0, ?_, by rw [H.out], hb2.trans (belowK_b (w := w) (Nat.le_refl _) _ D _ _ (by omega) hK' rfl rfl)⟩
          simp [results, Try.f36, go_sem] at hc5 ⊢
          simp [hc5]
        case stop =>
          rintro D c pre W hD ⟨⟨rfl, hok⟩, hR, hb⟩ hK
          have H := Lib.hid hok
          clear hok
          gi_wp2
          refine ⟨by simp, .inl ⟨_, _, rfl, run_takeDeferred hK, ?_⟩⟩
          have hc5 := cell_kept (hR.cell 0) (grownBy_putObj' _ D (.deferred none)) (fun r e => by cases e; exact ⟨_, hK, rfl⟩)
          refine ⟨.int .i64 5, ?_, by rw [H.out], hb.trans (belowK_b (w := w) (Nat.le_refl _) _ D _ _ (by omega) hK rfl rfl)⟩
          simp [results, Try.f36, go_sem] at hc5 ⊢
          simp [hc5]
end Go.Proofs.Ytnhbkfefpkocaaa
