/-
  The walks of strings.Cut at a text of one byte, and of a path's parts, one by one. The walk of path.Check. Chapter 11's examples (awake); cut. The walks of the reference's Split and May.
-/
import Derived.Test.YtnhbkfefpkocaaaPathP
import Derived.Test.YtnhbkfefpkocaaaRangeBox
import Derived.Test.YtnhbkfefpkocaaaShelf
import Derived.Shelf.Abstract
import Derived.Shelf.RegionOpen
import Derived.OwnWalkIn
import Derived.TacticsInMore
import Derived.LoopNIn
import Derived.LoopIn
import Derived.Lib.Hide
namespace Go.Proofs.Ytnhbkfefpkocaaa
open Go.RowKit Go.Shelf
attribute [local go_sem] Oper.semAt_some

theorem toList_data (s : ByteArray) : s.data.toList = s.toList := (ByteArray.toList_eq s).symm

/-- What cutting at the first slash comes to. -/
def CutEnd (s : ByteArray) (e : Ending) : Prop :=
  ((∀ x ∈ s.toList, x ≠ 47) ∧ e = .returned (.tuple #[.string s, .string ⟨#[]⟩, .bool false])) ∨
  ∃ i : Nat, i < s.size ∧ (∀ x ∈ s.toList.take i, x ≠ 47) ∧ s.toList = s.toList.take i ++ 47 :: s.toList.drop (i + 1) ∧ e = .returned (.tuple #[.string (s.extract 0 i), .string (s.extract (i + 1) s.size), .bool true])

theorem cut1_any (s : ByteArray) (w : World) (hs : s.size ≤ 9223372036854775807) :
    Calls Try.prog 106 #[.string s, .string ⟨#[47]⟩] w fun e w' => CutEnd s e ∧ Below w.heap.size w w' := by
  rcases idx_cases s.toList with ⟨h, hn⟩ | ⟨i, h, hlt, hn, he⟩
  · rw [← toList_data] at h
    have H := Lib.hid hn
    clear hn
    go_enter Try.func106, Try.ntmps106
    go_wp2_with (go_at_call 105; refine (Try.stringslite_Index_one s 47 _).mono ?_; rintro e w' ⟨rfl, rfl⟩; rw [h])
    go_ret3
    exact ⟨.inl ⟨H.out, rfl⟩, Below.refl _ _⟩
  · rw [← toList_data] at h
    have H := Lib.hid (And.intro hn he)
    rw [size_toList] at hlt
    clear hn he
    have c1 : (0 : Int) ≤ ↑i := by omega
    have c2 : (↑i : Int) ≤ ↑s.size := by omega
    have c3 : (0 : Int) ≤ ((i + 1 : Nat) : Int) := by omega
    have c4 : ((i + 1 : Nat) : Int) ≤ ↑s.size := by omega
    go_enter Try.func106, Try.ntmps106
    go_wp2_with (go_at_call 105; refine (Try.stringslite_Index_one s 47 _).mono ?_; rintro e w' ⟨rfl, rfl⟩; rw [h])
    have hw : IntKind.i64.wrap ((i : Int) + 1) = ((i + 1 : Nat) : Int) := by rw [IntKind.wrap_i64]; omega
    go_quiet (fail)
    go_wp2
    go_ret3
    exact ⟨.inr ⟨i, hlt, H.out.1, H.out.2, rfl⟩, below_drewN (Below.refl _ _) _⟩

theorem cut2_any (s : ByteArray) (w : World) (hs : s.size ≤ 9223372036854775807) :
    Calls Try.prog 89 #[.string s, .string ⟨#[47]⟩] w fun e w' => CutEnd s e ∧ Below w.heap.size w w' := by
  refine Calls.mono (R := fun e w' => (∃ a b c, e = .returned (.tuple #[.string a, .string b, .bool c]) ∧ CutEnd s e) ∧ Below w.heap.size w w') ?_ (fun e w' h => by obtain ⟨⟨a, b, c, _, hc⟩, hb⟩ := h; exact ⟨hc, hb⟩)
  go_enter Try.func89, Try.ntmps89
  go_wp2_with fail
  refine (cut1_any s _ hs).mono ?_
  rintro e w1 ⟨hc, hb⟩
  have he : ∃ a b c, e = .returned (.tuple #[.string a, .string b, .bool c]) := by
    rcases hc with ⟨_, h⟩ | ⟨i, _, _, _, h⟩ <;> exact ⟨_, _, _, h⟩
  obtain ⟨a, b, c, rfl⟩ := he
  have Hc := Lib.hid hc
  clear hc
  go_wp2_with fail
  go_ret3
  exact ⟨⟨a, b, c, rfl, Hc.out⟩, hb⟩

def lenAt (B : Nat) (w : World) : Nat := match w.cell? ⟨B, 0, none⟩ with
  | some (.string s) => s.size + 1
  | _ => 0
theorem lenAt_eq {B : Nat} {w : World} {s : ByteArray} (h : Bk w B 9 #[.string s]) : lenAt B w = s.size + 1 := by
  unfold lenAt; rw [show w.cell? ⟨B, 0, none⟩ = some (.string s) from h.cell 0]

theorem bides_same {Bn B : Nat} {I : List ByteArray → World → Prop} (h : Bides Bn B I) {s : List ByteArray} {W W' : World} (hs : I s W) (hb : Below W.heap.size W W') : I s W' :=
  h s W W' hs ⟨none, ⟨hb.os, hb.tape, hb.output, hb.size, fun k hk _ => hb.block k hk⟩, fun r e => by cases e⟩
theorem bides_set {Bn B : Nat} {I : List ByteArray → World → Prop} (h : Bides Bn B I) {s : List ByteArray} {W : World} (v : Value) (hs : I s W) : I s (W.setCell ⟨Bn, 0, none⟩ v) :=
  h s W _ hs ⟨some Bn, only_set W Bn 0 v, fun r e => by cases e; exact .inl rfl⟩

set_option maxRecDepth 20000 in
set_option maxHeartbeats 2000000 in
/-- The iterator gives a path's parts, one by one. -/
theorem parts_seq (n : Nat) (p : ByteArray) (hp : p.size ≤ 9223372036854775807) (Bn : Nat) :
    BoxSeq Try.prog n 88 #[.pointer (some ⟨Bn, 0, none⟩)] Bn (some (.cells #[.string p] 9 (0, 0))) (splB p) := by
  intro l J Jx W hW hJ hJx hY h0
  have hW' : Bk W Bn 9 #[.string p] := hW
  have hJ' : Bides Bn W.heap.size J := hJ
  refine callsIn_of_wp Try.func88 rfl trivial ?_
  simp only [Try.ntmps88, List.size_toArray, List.length_cons, List.length_nil, Nat.reduceAdd, Nat.reduceSub, Array.replicate_succ, Array.replicate_zero, List.push_toArray, List.append_toArray, List.nil_append, List.cons_append]
  have hlt := hW'.lt
  gi_wp2
  gi_loopw [3] (fun _ wr => ∃ (pre : List ByteArray) (r : ByteArray), splB p = pre ++ splB r ∧ r.size ≤ 9223372036854775807 ∧ Bk wr Bn 9 #[.string r] ∧ J pre wr) (fun _ wr => lenAt Bn wr)
  case atStart => exact ⟨[], p, rfl, hp, hW', h0⟩
  case round =>
    obtain ⟨pre, r, hx, hr, hB, hJs⟩ := hrel
    have r0 : wr.cell? ⟨Bn, 0, none⟩ = some (.string r) := hB.cell 0
    gi_wp2_with fail
    refine ⟨trivial, fun h => (by cases h), (callsIn_wide.2 (cut2_any r wr hr)).mono ?_⟩
    rintro e w1 ⟨hc, hb⟩
    have hJ1 := bides_same hJ' hJs hb
    have hB1 := hB.below' hb
    have hs1 := hb.size
    rcases hc with ⟨hn, rfl⟩ | ⟨i, hi, hn, he, rfl⟩
    · have hsp := splB_none r hn
      rw [hsp] at hx
      clear hn hb hJs hB r0
      obtain ⟨fn, tmps, assign, body, hy, hR⟩ := hY pre r w1 hJ1 (by rw [hx]; exact List.prefix_refl _)
      gi_wp2
      refine ⟨fun h => (by cases h), hR.mono ?_⟩
      rintro e W3 (⟨rfl, hJ3, hk3⟩ | ⟨rfl, hJx3⟩)
      · gi_wp2
        refine bodyPost_ret (results_none rfl _ _ _) rfl ?_
        exact ⟨⟨_, rfl⟩, .inl (by rw [hx]; exact hJ3)⟩
      · gi_wp2
        refine bodyPost_ret (results_none rfl _ _ _) rfl ?_
        exact ⟨⟨_, rfl⟩, .inr ⟨_, hJx3⟩⟩
    · have hsp := splB_some r i hi hn he
      rw [hsp] at hx
      have hz : (r.extract (i + 1) r.size).size ≤ 9223372036854775807 := by rw [← size_toList, toList_suf, List.length_drop, size_toList]; omega
      have hm : (r.extract (i + 1) r.size).size + 1 < r.size + 1 := by rw [← size_toList, toList_suf, List.length_drop, size_toList]; omega
      clear hn he hb hJs hsp
      obtain ⟨fn, tmps, assign, body, hy, hR⟩ := hY pre (r.extract 0 i) w1 hJ1 (by rw [hx]; exact ⟨splB (r.extract (i + 1) r.size), by simp⟩)
      generalize r.extract 0 i = x at *
      generalize r.extract (i + 1) r.size = r2 at *
      gi_wp2
      refine ⟨fun h => (by cases h), hR.mono ?_⟩
      rintro e W3 (⟨rfl, hJ3, hk3⟩ | ⟨rfl, hJx3⟩)
      · have hB3 : Bk W3 Bn 9 #[.string r] := hk3.trans hB1
        have r3 : W3.cell? ⟨Bn, 0, none⟩ = some (.string r) := hB3.cell 0
        have f3 := hB3.frozen 0
        have hJ4 := bides_set hJ' (.string r2) hJ3
        have hB4 : Bk (W3.setCell ⟨Bn, 0, none⟩ (.string r2)) Bn 9 #[.string r2] := hB3.set_ 0 _
        have hs4 : (W3.setCell ⟨Bn, 0, none⟩ (.string r2)).heap.size = W3.heap.size := by simp
        gi_wp2
        go_roundw
        case rel => exact ⟨pre ++ [x], r2, by rw [hx]; simp, hz, hB4, hJ4⟩
        case measure => rw [lenAt_eq hB4, lenAt_eq hB]; exact hm
      · gi_wp2
        refine bodyPost_ret (results_none rfl _ _ _) rfl ?_
        exact ⟨⟨_, rfl⟩, .inr ⟨_, hJx3⟩⟩
end Go.Proofs.Ytnhbkfefpkocaaa
namespace Go.Proofs.Ytnhbkfefpkocaaa
open Go.RowKit Go.Shelf
attribute [local go_sem] Oper.semAt_some

theorem parts_any (p : ByteArray) (w : World) :
    Calls Try.prog 63 #[.string p] w fun e w' => e = .returned (.func (.func 88) #[] #[.pointer (some ⟨w.heap.size, 0, none⟩)]) ∧ w' = w.alloc (.cells #[.string p] 9) := by
  go_enter Try.func63, Try.ntmps63
  go_wp2
  go_ret
  exact ⟨rfl, rfl⟩

theorem idx0 (p : List UInt8) : decide (0 ≤ Lib.indexByte p 0) = decide (∃ x ∈ p, x = 0) := by
  rw [decide_eq_decide]
  have hg := Lib.indexByte_ge p 0
  constructor
  · intro h
    obtain ⟨i, hi⟩ : ∃ i : Nat, Lib.indexByte p 0 = i := ⟨(Lib.indexByte p 0).toNat, by omega⟩
    exact ⟨0, List.mem_iff_getElem?.2 ⟨i, (Lib.indexByte_some hi).1⟩, rfl⟩
  · rintro ⟨x, hx, rfl⟩
    apply Classical.byContradiction
    intro h
    obtain ⟨k, hk⟩ := List.mem_iff_getElem?.1 hx
    exact Lib.indexByte_none (by omega) k hk

theorem bides_and {Bn B : Nat} (p : List ByteArray → Prop) {I : List ByteArray → World → Prop} (h : Bides Bn B I) : Bides Bn B (fun s W => p s ∧ I s W) := fun s W W' hs ht => ⟨hs.1, h s W W' hs.2 ht⟩
theorem bides_bk {Bn B g n₀ : Nat} {t : TypeId} {cs : Array Value} {w₀ : World} (hg : g ≠ Bn) (hn : n₀ ≤ w₀.heap.size) (hBn : n₀ ≤ Bn) (hB : n₀ ≤ B) : Bides Bn B (fun _ W => Bk W g t cs ∧ Below n₀ w₀ W) := by
  refine bides_below' (I := fun _ W => Bk W g t cs) ?_ hn hBn hB
  rintro s W W' hk ⟨row, hr, h⟩
  refine (hr.block g hk.lt ?_).trans hk
  intro e
  rcases h g e.symm with h | ⟨_, o, ho, hc⟩
  · exact hg h
  · rw [show W.heap[g]? = _ from hk] at ho; cases ho; cases hc

/-- What path.Check tells. -/
def okP (p : ByteArray) : Int := if pathOk p.toList then 0 else 5
theorem okP_bad {p : ByteArray} (h : ¬ (p.toList ≠ [] ∧ p.toList.length ≤ 4096 ∧ (∀ x ∈ p.toList, x ≠ 0) ∧ ∀ x ∈ spl p.toList, partOk x = true)) : okP p = 5 := by
  unfold okP pathOk; rw [decide_eq_false h]; rfl

set_option maxRecDepth 20000 in
set_option maxHeartbeats 2000000 in
theorem check_any (p : ByteArray) (w : World) (hs : p.size ≤ 9223372036854775807) :
    Calls Try.prog 36 #[.string p] w fun e w' => e = .returned (.int .i64 (okP p)) ∧ Below w.heap.size w w' := by
  have hb0 := (Below.refl w.heap.size w).alloc (Nat.le_refl _) (.cells #[.int .i64 0] 38)
  have hR0 : Bk (w.alloc (.cells #[.int .i64 0] 38)) w.heap.size 38 #[.int .i64 0] := Bk.new _ _ _
  obtain ⟨k, hk⟩ : ∃ k, okP p = k := ⟨_, rfl⟩
  by_cases h1 : p.size = 0
  · have H := Lib.hid (show okP p = 5 from okP_bad (fun h => h.1 (List.eq_nil_of_length_eq_zero (by rw [size_toList]; exact h1))))
    have hp : p = ⟨#[]⟩ := str_eq (by rw [toList_nil]; exact List.eq_nil_of_length_eq_zero (by rw [size_toList]; exact h1))
    subst hp
    clear h1
    go_enter Try.func36, Try.ntmps36
    go_wp2_with fail
    exact bodyPost_ret (v := .int .i64 5) (by simp [results, Try.results36, go_sem]) rfl ⟨by rw [H.out], (Below.refl w.heap.size w).alloc (Nat.le_refl _) _⟩
  · have hne : (p.toList == ([] : List UInt8)) = false := by
      rw [beq_eq_false_iff_ne]; intro e; rw [← size_toList, e] at h1; exact h1 rfl
    by_cases h2 : 4096 < (p.size : Int)
    · have H := Lib.hid (show okP p = 5 from okP_bad (fun h => by have := h.2.1; rw [size_toList] at this; omega))
      clear h1
      go_enter Try.func36, Try.ntmps36
      go_wp2_with fail
      exact bodyPost_ret (v := .int .i64 5) (by simp [results, Try.results36, go_sem]) rfl ⟨by rw [H.out], (Below.refl w.heap.size w).alloc (Nat.le_refl _) _⟩
    · by_cases h3 : ∃ x ∈ p.toList, x = 0
      · have H := Lib.hid (show okP p = 5 from okP_bad (fun h => by obtain ⟨x, hx, hx0⟩ := h3; exact h.2.2.1 x hx hx0))
        have hc := decide_eq_true h3
        clear h1
        go_enter Try.func36, Try.ntmps36
        go_wp2_with (go_at_call 62; refine (Try.strings_Contains_one p 0 _).mono ?_; rintro e w' ⟨rfl, rfl⟩; rw [toList_data, idx0, hc])
        exact bodyPost_ret (v := .int .i64 5) (by simp [results, Try.results36, go_sem]) rfl ⟨by rw [H.out], (Below.refl w.heap.size w).alloc (Nat.le_refl _) _⟩
      · have hc := decide_eq_false h3
        refine (callsIn_wide (n := 2)).1 ?_
        refine callsIn_of_wp_marks Try.func36 rfl trivial ?_
        simp only [Try.ntmps36, List.size_toArray, List.length_cons, List.length_nil, Nat.reduceAdd, Nat.reduceSub, Array.replicate_succ, Array.replicate_zero, List.push_toArray, List.append_toArray, List.nil_append, List.cons_append]
        gi_wp2_with fail
        refine ⟨trivial, (callsIn_wide.2 (Try.strings_Contains_one p 0 _)).mono ?_⟩
        rintro e w1 ⟨rfl, rfl⟩
        rw [toList_data, idx0, hc]
        gi_wp2_with fail
        refine ⟨trivial, (callsIn_wide.2 (parts_any p _)).mono ?_⟩
        rintro e w1 ⟨rfl, rfl⟩
        simp only [World.size_alloc]
        gi_wp2_with fail
        have hR1 : Bk ((w.alloc (.cells #[.int .i64 0] 38)).alloc (.cells #[.string p] 9)) w.heap.size 38 #[.int .i64 0] := hR0.alloc _
        have hP1 : Bk ((w.alloc (.cells #[.int .i64 0] 38)).alloc (.cells #[.string p] 9)) (w.heap.size + 1) 9 #[.string p] := by
          have h := Bk.new (w.alloc (.cells #[.int .i64 0] 38)) 9 #[.string p]
          rw [World.size_alloc] at h
          exact h
        have hb1 := hb0.alloc (by simp) (.cells #[.string p] 9)
        have hz1 : ((w.alloc (.cells #[.int .i64 0] 38)).alloc (.cells #[.string p] 9)).heap.size = w.heap.size + 2 := by simp
        generalize (w.alloc (.cells #[.int .i64 0] 38)).alloc (.cells #[.string p] 9) = w1 at *
        have H1 := Lib.hid h1
        have H3 := Lib.hid h3
        clear h1 h3 hc hb0 hR0 hk k
        refine range_box (n := 2) rfl (enters_of Try.func88 (by kernel_rfl) rfl) rfl (w.heap.size + 1) (by omega) (splB p) (by rw [show w1.heap[w.heap.size + 1]? = _ from hP1]; exact parts_seq _ p hs _)
          (fun pre W => (∀ x ∈ pre, partOk x.toList = true) ∧ (Bk W w.heap.size 38 #[.int .i64 0] ∧ Below w.heap.size w W))
          (fun c _ W => (c = .ret ∧ okP p = 5) ∧ (Bk W w.heap.size 38 #[.int .i64 5] ∧ Below w.heap.size w W))
          (bides_and _ (bides_bk (by omega) (Nat.le_refl _) (by omega) (by omega)))
          (fun c => bides_and _ (bides_bk (by omega) (Nat.le_refl _) (by omega) (by omega)))
          ⟨by simp, hR1, hb1⟩
          (fun x => { tmps := #[.string p, undef, .pointer (some ⟨w.heap.size, 0, none⟩), .string x, .string p, .bool false, .bool false, .string p, .int .i64 ↑p.size, .bool false, .bool false, .bool false, .string p, .bool false, .bool false, .string p, .func (.func 88) #[] #[.pointer (some ⟨w.heap.size + 1, 0, none⟩)], .string x, undef, undef, undef, undef, undef, undef, undef, undef, undef, undef], defers := [] }) ?assign ?body ?done ?stop
        case assign =>
          intro l x W K hK
          gi_wp2
          exact hK
        case body =>
          rintro l pre x W ⟨hpre, hR, hb⟩ hx hsz
          have r0 : W.cell? ⟨w.heap.size, 0, none⟩ = some (.int .i64 0) := hR.cell 0
          have r1 := hR.frozen 0
          have hmem : x.toList ∈ spl p.toList := by
            have : x ∈ splB p := hx.subset (by simp)
            unfold splB at this
            obtain ⟨y, hy, rfl⟩ := List.mem_map.1 this
            rw [toList_ofL]; exact hy
          by_cases ho : partOk x.toList = true
          · have h' : ¬ (x.toList = [] ∨ x.toList = [46] ∨ x.toList = [46, 46]) := of_decide_eq_true ho
            have t1 : (x.toList == ([] : List UInt8)) = false := by rw [beq_eq_false_iff_ne]; intro e; exact h' (.inl e)
            have t2 : (x.toList == ([46] : List UInt8)) = false := by rw [beq_eq_false_iff_ne]; intro e; exact h' (.inr (.inl e))
            have t3 : (x.toList == ([46, 46] : List UInt8)) = false := by rw [beq_eq_false_iff_ne]; intro e; exact h' (.inr (.inr e))
            clear h' hmem
            gi_wp2
            exact ⟨(KeepsOthers.refl _).from _, rfl, fun y hy => (List.mem_append.1 hy).elim (hpre y) (fun e => by simp at e; subst e; exact ho), hR, hb⟩
          · have H := Lib.hid (show okP p = 5 from okP_bad (fun h => ho (h.2.2.2 _ hmem)))
            have hend : boxPost (w.heap.size + 1) w1.heap.size (fun pre W => (∀ x ∈ pre, partOk x.toList = true) ∧ (Bk W w.heap.size 38 #[.int .i64 0] ∧ Below w.heap.size w W))
              (fun c _ W => (c = .ret ∧ okP p = 5) ∧ (Bk W w.heap.size 38 #[.int .i64 5] ∧ Below w.heap.size w W)) (pre ++ [x]) W .ret { tmps := #[], defers := [] } (W.setCell ⟨w.heap.size, 0, none⟩ (.int .i64 5)) :=
              ⟨(KeepsOthers.setCell _ _ _).from _, ⟨rfl, H.out⟩, hR.set_ 0 _, hb.setCell (p := ⟨w.heap.size, 0, none⟩) (Nat.le_refl _) _⟩
            have h' : x.toList = [] ∨ x.toList = [46] ∨ x.toList = [46, 46] := by
              apply Classical.byContradiction; intro h; exact ho (decide_eq_true h)
            clear hmem
            by_cases e1 : x.toList = []
            · have t1 : (x.toList == ([] : List UInt8)) = true := by rw [beq_iff_eq]; exact e1
              clear e1 h' ho
              gi_wp2
              exact hend
            · have t1 : (x.toList == ([] : List UInt8)) = false := by rw [beq_eq_false_iff_ne]; exact e1
              by_cases e2 : x.toList = [46]
              · have t2 : (x.toList == ([46] : List UInt8)) = true := by rw [beq_iff_eq]; exact e2
                clear e1 e2 h' ho
                gi_wp2
                exact hend
              · have t2 : (x.toList == ([46] : List UInt8)) = false := by rw [beq_eq_false_iff_ne]; exact e2
                have t3 : (x.toList == ([46, 46] : List UInt8)) = true := by rw [beq_iff_eq]; exact (h'.resolve_left e1).resolve_left e2
                clear e1 e2 h' ho
                gi_wp2
                exact hend
        case done =>
          rintro D W hD ⟨hall, hR, hb⟩ hK
          have H := Lib.hid (show okP p = 0 by
            unfold okP pathOk
            rw [decide_eq_true]; rfl
            refine ⟨fun e => H1.out (by rw [← size_toList, e]; rfl), by rw [size_toList]; omega, fun x hx e => H3.out ⟨x, hx, e⟩, fun x hx => ?_⟩
            have := hall (ofL x) (by unfold splB; exact List.mem_map.2 ⟨x, hx, rfl⟩)
            rwa [toList_ofL] at this)
          clear hall
          have r0 : W.cell? ⟨w.heap.size, 0, none⟩ = some (.int .i64 0) := hR.cell 0
          have r1 := hR.frozen 0
          have hK' := (KeepsOthers.setCell W ⟨w.heap.size, 0, none⟩ (.int .i64 0)).same D _ hK rfl
          have hR2 : Bk (W.setCell ⟨w.heap.size, 0, none⟩ (.int .i64 0)) w.heap.size 38 #[.int .i64 0] := hR.set_ 0 _
          have hb2 := hb.setCell (p := ⟨w.heap.size, 0, none⟩) (Nat.le_refl _) (.int .i64 0)
          gi_wp2
          refine ⟨by simp, .inl ⟨_, _, rfl, run_takeDeferred hK', ?_⟩⟩
          have hc5 := cell_kept (hR2.cell 0) (grownBy_putObj' _ D (.deferred none)) (fun r e => by cases e; exact ⟨_, hK', rfl⟩)
          refine ⟨.int .i64 0, ?_, by rw [H.out], hb2.trans (belowK_b (w := w) (Nat.le_refl _) _ D _ _ (by omega) hK' rfl rfl)⟩
          simp [results, Try.f36, go_sem] at hc5 ⊢
          simp [hc5]
        case stop =>
          rintro D c pre W hD ⟨⟨rfl, hok⟩, hR, hb⟩ hK
          have H := Lib.hid hok
          clear hok
          gi_wp2
          refine ⟨by simp, .inl ⟨_, _, rfl, run_takeDeferred hK, ?_⟩⟩
          have hc5 := cell_kept (hR.cell 0) (grownBy_putObj' _ D (.deferred none)) (fun r e => by cases e; exact ⟨_, hK, rfl⟩)
          refine ⟨.int .i64 5, ?_, by rw [H.out], hb.trans (belowK_b (w := w) (Nat.le_refl _) _ D _ _ (by omega) hK rfl rfl)⟩
          simp [results, Try.f36, go_sem] at hc5 ⊢
          simp [hc5]
end Go.Proofs.Ytnhbkfefpkocaaa
namespace Go.Proofs.Ytnhbkfefpkocaaa
open Go.RowKit

theorem okP_lit (l : List UInt8) : okP ⟨l.toArray⟩ = if pathOk l then 0 else 5 := by unfold okP; rw [mk_ofL, toList_ofL]
theorem check_k (p : ByteArray) (k : Int) (h : okP p = k) (hs : p.size ≤ 9223372036854775807) (w : World) :
    Calls Try.prog 36 #[.string p] w fun e w' => e = .returned (.int .i64 k) ∧ Below w.heap.size w w' := by subst h; exact check_any p w hs


/-- A text of at most 5000 bytes out of any one. -/
def cutL (s : ByteArray) : ByteArray := ofL (s.toList.take 5000)
theorem cutL_size (s : ByteArray) : (cutL s).size ≤ 5000 := by unfold cutL; rw [size_ofL, List.length_take]; omega
end Go.Proofs.Ytnhbkfefpkocaaa
namespace Go.Proofs.Ytnhbkfefpkocaaa
open Go.RowKit

theorem Try.info9 : (Try.prog.info? 9).map (fun i => (i.zero, i.size, i.bytes)) = some (some (.string ⟨#[]⟩), 1, 16) := by kernel_rfl
theorem el_str : El Try.prog 101 9 1 16 := El.mk_ (z := .string ⟨#[]⟩) Try.underlying101 Try.info9 (by omega) rfl
/-- Texts as the cells of a slice. -/
def tv (L : List (List UInt8)) : List Value := L.map fun x => Value.string (ofL x)
theorem tv_snoc (L : List (List UInt8)) (x : List UInt8) : tv L ++ [Value.string (ofL x)] = tv (L ++ [x]) := by simp [tv]
theorem tv_length (L : List (List UInt8)) : (tv L).length = L.length := by simp [tv]
/-- The sizes while a text is split. -/
theorem foldP_le (p : List UInt8) : (foldP p).1.length ≤ p.length ∧ (foldP p).2.length ≤ p.length := by
  suffices h : ∀ (p : List UInt8) (a : List (List UInt8) × List UInt8), (p.foldl stepP a).1.length ≤ a.1.length + p.length ∧ (p.foldl stepP a).2.length ≤ a.2.length + p.length from by have := h p ([], []); simp at this; exact this
  intro p
  induction p with
  | nil => intro a; simp
  | cons c p ih =>
    intro a
    have := ih (stepP a c)
    unfold stepP at this ⊢
    simp only [List.foldl_cons, List.length_cons]
    split at this
    · rename_i hc
      simp only [hc, if_true] at this ⊢
      simp at this ⊢
      omega
    · rename_i hc
      simp only [hc, if_false] at this ⊢
      simp at this ⊢
      omega

set_option maxRecDepth 20000 in
set_option maxHeartbeats 2000000 in
theorem split_any (p : ByteArray) (w : World) (hs : p.size ≤ 100000000) :
    Calls Try.prog 78 #[.string p] w (RetS w (spl p.toList).length (tv (spl p.toList))) := by
  go_enter Try.func78, Try.ntmps78
  go_wp2_with fail
  go_loopw [3, 4, 5] (fun v t i wr => ∃ (k : Nat) (L : List (List UInt8)) (s : List UInt8), k ≤ p.size ∧ i = .int .i64 k ∧ Hid (foldP (p.toList.take k) = (L, s)) ∧ t = .string (ofL s) ∧ wr.ownsRow w.heap.size 9 1 v L.length (tv L) ∧ Below w.heap.size w wr) (fun _ _ i _ => p.size - (intOf i).toNat)
  case atStart => exact ⟨0, [], [], by omega, rfl, Lib.hid rfl, rfl, World.ownsRow_nil _ _ _ _, Below.refl _ _⟩
  case round =>
    obtain ⟨k, L, s, hk, rfl, hf, rfl, hown, hb⟩ := hrel
    have hle := foldP_le (p.toList.take k)
    rw [hf.out, List.length_take, size_toList] at hle
    have hl1 : L.length ≤ 100000000 := by have := hle.1; simp at this; omega
    have hl2 : s.length ≤ 100000000 := by have := hle.2; simp at this; omega
    have hsz := hb.size
    clear hle
    by_cases hlt : k < p.size
    · have hstep : foldP (p.toList.take (k + 1)) = stepP (L, s) p[k] := by
        rw [List.take_succ_eq_append_getElem (by rw [size_toList]; exact hlt), foldP_snoc, hf.out, ← getElem_toList]
      by_cases hc : p[k] = 47
      · have H := Lib.hid (show foldP (p.toList.take (k + 1)) = (L ++ [s], []) by rw [hstep, stepP, if_pos hc])
        have hc' : p[k].toNat = 47 := by rw [hc]; rfl
        clear hstep hc
        go_wp2_with (at_builtin; go_must (refine wpList_append_new wr rfl (.tmp 16) (.tmp 18) 101 rfl w.heap.size 9 1 16 el_str _ _ _ hown rfl _ rfl rfl (by intro u hu; simp at hu; subst hu; rfl) (by unfold maxLen; omega) (by omega) (by omega) ?_); intro v2 w2 hown2 hb2)
        have hown3 : w2.ownsRow w.heap.size 9 1 v2 (L ++ [s]).length (tv (L ++ [s])) := by
          rw [← tv_snoc, List.length_append]; exact hown2
        go_roundw
        case rel => exact ⟨k + 1, L ++ [s], [], by omega, by go_num, H, rfl, hown3, hb.trans hb2⟩
        case measure => simp [intOf]; omega
      · have H := Lib.hid (show foldP (p.toList.take (k + 1)) = (L, s ++ [p[k]]) by rw [hstep, stepP, if_neg hc])
        have hc' : ¬ p[k].toNat = 47 := by
          intro e; exact hc (UInt8.toNat_inj.1 (by rw [e]; rfl))
        have hx : ofL s ++ p.extract k (k + 1) = ofL (s ++ [p[k]]) := str_eq (by
          rw [toList_app, toList_ofL, toList_ofL, toList_ext, List.drop_eq_getElem_cons (by rw [size_toList]; exact hlt), ← getElem_toList]; simp; exact hlt)
        have hx2 : ¬ (9223372036854775807 < (ofL s).size + (p.extract k (k + 1)).size) := by
          rw [size_ofL, ← size_toList, toList_ext, List.length_take]; omega
        clear hstep hc
        go_wp2_with fail
        go_roundw
        case rel => exact ⟨k + 1, L, s ++ [p[k]], by omega, by go_num, H, rfl, hown, hb⟩
        case measure => simp [intOf]; omega
    · obtain rfl : k = p.size := by omega
      have H : spl p.toList = L ++ [s] := by
        have h := hf.out
        rw [List.take_of_length_le (by rw [size_toList]; omega)] at h
        unfold spl; rw [h]
      have H' := Lib.hid H
      clear H hf
      go_wp2_with (at_builtin; go_must (refine wpList_append_new wr rfl (.tmp 27) (.tmp 29) 101 rfl w.heap.size 9 1 16 el_str _ _ _ hown rfl _ rfl rfl (by intro u hu; simp at hu; subst hu; rfl) (by unfold maxLen; omega) (by omega) (by omega) ?_); intro v2 w2 hown2 hb2)
      go_ret
      rw [H'.out]
      have hown3 : w2.ownsRow w.heap.size 9 1 v2 (L ++ [s]).length (tv (L ++ [s])) := by
        rw [← tv_snoc, List.length_append]; exact hown2
      exact RetS.own hown3 (hb.trans hb2) (Nat.le_refl _)

theorem may_true {p : ByteArray} (h1 : 1 ≤ p.size) (h2 : p.size ≤ 4096) (h3 : ∀ x ∈ p.toList, x ≠ 0) (h4 : ∀ x ∈ spl p.toList, partOk x = true) : pathOk p.toList = true :=
  decide_eq_true ⟨fun e => by rw [← size_toList, e] at h1; exact absurd h1 (by decide), by rw [size_toList]; omega, h3, h4⟩
theorem may_false {p : ByteArray} (h : ¬ (p.toList ≠ [] ∧ p.toList.length ≤ 4096 ∧ (∀ x ∈ p.toList, x ≠ 0) ∧ ∀ x ∈ spl p.toList, partOk x = true)) : pathOk p.toList = false := decide_eq_false h

set_option maxRecDepth 20000 in
set_option maxHeartbeats 2000000 in
theorem may_any (p : ByteArray) (w : World) (hs : p.size ≤ 100000000) :
    Calls Try.prog 52 #[.string p] w fun e w' => e = .returned (.bool (pathOk p.toList)) ∧ Below w.heap.size w w' := by
  by_cases h1 : (p.size : Int) < 1
  · have H := Lib.hid (show pathOk p.toList = false from may_false (fun h => h.1 (List.eq_nil_of_length_eq_zero (by rw [size_toList]; omega))))
    go_enter Try.func52, Try.ntmps52
    go_wp2
    go_ret
    exact ⟨by rw [H.out]; rfl, Below.refl _ _⟩
  · by_cases h2 : 4096 < (p.size : Int)
    · have H := Lib.hid (show pathOk p.toList = false from may_false (fun h => by have := h.2.1; rw [size_toList] at this; omega))
      go_enter Try.func52, Try.ntmps52
      go_wp2
      go_ret
      exact ⟨by rw [H.out]; rfl, Below.refl _ _⟩
    · go_enter Try.func52, Try.ntmps52
      go_wp2_with fail
      go_loop [3] (fun i => ∃ k : Nat, k ≤ p.size ∧ i = .int .i64 k ∧ Hid (∀ x ∈ p.toList.take k, x ≠ 0)) (fun i => p.size - (intOf i).toNat)
      case atStart => exact ⟨0, by omega, rfl, Lib.hid (by simp)⟩
      case round =>
        obtain ⟨k, hk, rfl, hf⟩ := hrel
        by_cases hlt : k < p.size
        · by_cases hc : p[k] = 0
          · have H := Lib.hid (show pathOk p.toList = false from may_false (fun h => h.2.2.1 p[k] (by rw [getElem_toList]; exact List.getElem_mem _) hc))
            have hc' : p[k].toNat = 0 := by rw [hc]; rfl
            clear hc
            go_wp2_with fail
            go_ret
            exact ⟨by rw [H.out]; rfl, Below.refl _ _⟩
          · have H := Lib.hid (show ∀ x ∈ p.toList.take (k + 1), x ≠ 0 by
              rw [List.take_succ_eq_append_getElem (by rw [size_toList]; exact hlt), ← getElem_toList]
              intro x hx
              rcases List.mem_append.1 hx with h | h
              · exact hf.out x h
              · simp at h; subst h; exact hc)
            have hc' : ¬ p[k].toNat = 0 := by
              intro e; exact hc (UInt8.toNat_inj.1 (by rw [e]; rfl))
            clear hc
            go_wp2_with fail
            go_round
            case rel => exact ⟨k + 1, by omega, by go_num, H⟩
            case measure => simp [intOf]; omega
        · obtain rfl : k = p.size := by omega
          have H3 := Lib.hid (show ∀ x ∈ p.toList, x ≠ 0 by
            have := hf.out
            rwa [List.take_of_length_le (by rw [size_toList]; omega)] at this)
          clear hf
          go_wp2_with fail
          refine (split_any p _ hs).mono ?_
          rintro e w1 ⟨A, c, rfl, hc1, hc2, hrd, hfr, hb⟩
          have hlen : (spl p.toList).length ≤ 9223372036854775807 := by unfold maxLen at hc2; omega
          have HL := Lib.hid hlen
          obtain ⟨Lp, hLp⟩ : ∃ Lp, spl p.toList = Lp := ⟨_, rfl⟩
          have HP := Lib.hid hLp
          rw [hLp] at hrd hc1 hlen HL ⊢
          clear hLp
          go_wp2_with fail
          go_loop [5] (fun i => ∃ k : Nat, k ≤ Lp.length ∧ i = .int .i64 k ∧ Hid (∀ x ∈ Lp.take k, partOk x = true)) (fun i => Lp.length - (intOf i).toNat)
          case atStart => exact ⟨0, by omega, rfl, Lib.hid (by simp)⟩
          case round =>
            obtain ⟨k, hk', rfl, hf⟩ := hrel
            by_cases hl : k < Lp.length
            · obtain ⟨b, o, rfl, hcell⟩ := hrd.at_ (by rw [tv_length]; exact hl)
              obtain ⟨x, hx⟩ : ∃ x, ofL Lp[k] = x := ⟨_, rfl⟩
              have hx' : Lp[k] = x.toList := by rw [← hx, toList_ofL]
              have hcell' : w1.cell? ⟨b, o + k, none⟩ = some (.string x) := by
                rw [hcell]; simp [tv, hx]
              by_cases ho : partOk x.toList = true
              · have H := Lib.hid (show ∀ y ∈ Lp.take (k + 1), partOk y = true by
                  rw [List.take_succ_eq_append_getElem hl]
                  intro y hy
                  rcases List.mem_append.1 hy with h | h
                  · exact hf.out y h
                  · simp at h; subst h; rw [hx']; exact ho)
                have h' : ¬ (x.toList = [] ∨ x.toList = [46] ∨ x.toList = [46, 46]) := of_decide_eq_true ho
                have t1 : (x.toList == ([] : List UInt8)) = false := by rw [beq_eq_false_iff_ne]; intro e; exact h' (.inl e)
                have t2 : (x.toList == ([46] : List UInt8)) = false := by rw [beq_eq_false_iff_ne]; intro e; exact h' (.inr (.inl e))
                have t3 : (x.toList == ([46, 46] : List UInt8)) = false := by rw [beq_eq_false_iff_ne]; intro e; exact h' (.inr (.inr e))
                clear h' ho hx hx' hcell
                go_wp2_with fail
                go_round
                case rel => exact ⟨k + 1, by omega, by go_num, H⟩
                case measure => simp [intOf]; omega
              · have H := Lib.hid (show pathOk p.toList = false from may_false (fun h => ho (by rw [← hx']; exact h.2.2.2 _ (by rw [HP.out]; exact List.getElem_mem _))))
                have h' : x.toList = [] ∨ x.toList = [46] ∨ x.toList = [46, 46] := by
                  apply Classical.byContradiction; intro h; exact ho (decide_eq_true h)
                clear hx hx' hcell ho
                by_cases e1 : x.toList = []
                · have t1 : (x.toList == ([] : List UInt8)) = true := by rw [beq_iff_eq]; exact e1
                  clear e1 h'
                  go_wp2_with fail
                  go_ret
                  exact ⟨by rw [H.out]; rfl, hb⟩
                · have t1 : (x.toList == ([] : List UInt8)) = false := by rw [beq_eq_false_iff_ne]; exact e1
                  by_cases e2 : x.toList = [46]
                  · have t2 : (x.toList == ([46] : List UInt8)) = true := by rw [beq_iff_eq]; exact e2
                    clear e1 e2 h'
                    go_wp2_with fail
                    go_ret
                    exact ⟨by rw [H.out]; rfl, hb⟩
                  · have t2 : (x.toList == ([46] : List UInt8)) = false := by rw [beq_eq_false_iff_ne]; exact e2
                    have t3 : (x.toList == ([46, 46] : List UInt8)) = true := by rw [beq_iff_eq]; exact (h'.resolve_left e1).resolve_left e2
                    clear e1 e2 h'
                    go_wp2_with fail
                    go_ret
                    exact ⟨by rw [H.out]; rfl, hb⟩
            · obtain rfl : k = Lp.length := by omega
              have H := Lib.hid (show pathOk p.toList = true from may_true (by omega) (by omega) H3.out (by
                have := hf.out
                rw [List.take_of_length_le (Nat.le_refl _)] at this
                rw [HP.out]; exact this))
              go_wp2_with fail
              go_ret
              exact ⟨by rw [H.out]; rfl, hb⟩
end Go.Proofs.Ytnhbkfefpkocaaa
