/-
  The walks of strings.Cut at a text of one byte, and of a path's parts, one by one.
-/
import Derived.Test.YtnhbkfefpkocaaaPathP
import Derived.Test.YtnhbkfefpkocaaaRangeBox
import Derived.Test.YtnhbkfefpkocaaaShelf
import Derived.Shelf.Abstract
import Derived.Shelf.RegionOpen
import Derived.OwnWalkIn
import Derived.TacticsInMore
import Derived.LoopNIn
import Derived.LoopIn
import Derived.Lib.Hide
namespace Go.Proofs.Ytnhbkfefpkocaaa
open Go.RowKit Go.Shelf
attribute [local go_sem] Oper.semAt_some

theorem toList_data (s : ByteArray) : s.data.toList = s.toList := (ByteArray.toList_eq s).symm

/-- What cutting at the first slash comes to. -/
def CutEnd (s : ByteArray) (e : Ending) : Prop :=
  ((∀ x ∈ s.toList, x ≠ 47) ∧ e = .returned (.tuple #[.string s, .string ⟨#[]⟩, .bool false])) ∨
  ∃ i : Nat, i < s.size ∧ (∀ x ∈ s.toList.take i, x ≠ 47) ∧ s.toList = s.toList.take i ++ 47 :: s.toList.drop (i + 1) ∧ e = .returned (.tuple #[.string (s.extract 0 i), .string (s.extract (i + 1) s.size), .bool true])

theorem cut1_any (s : ByteArray) (w : World) (hs : s.size ≤ 9223372036854775807) :
    Calls Try.prog 106 #[.string s, .string ⟨#[47]⟩] w fun e w' => CutEnd s e ∧ Below w.heap.size w w' := by
  rcases idx_cases s.toList with ⟨h, hn⟩ | ⟨i, h, hlt, hn, he⟩
  · rw [← toList_data] at h
    have H := Lib.hid hn
    clear hn
    go_enter Try.func106, Try.ntmps106
    go_wp2_with (go_at_call 105; refine (Try.stringslite_Index_one s 47 _).mono ?_; rintro e w' ⟨rfl, rfl⟩; rw [h])
    go_ret3
    exact ⟨.inl ⟨H.out, rfl⟩, Below.refl _ _⟩
  · rw [← toList_data] at h
    have H := Lib.hid (And.intro hn he)
    rw [size_toList] at hlt
    clear hn he
    have c1 : (0 : Int) ≤ ↑i := by omega
    have c2 : (↑i : Int) ≤ ↑s.size := by omega
    have c3 : (0 : Int) ≤ ((i + 1 : Nat) : Int) := by omega
    have c4 : ((i + 1 : Nat) : Int) ≤ ↑s.size := by omega
    go_enter Try.func106, Try.ntmps106
    go_wp2_with (go_at_call 105; refine (Try.stringslite_Index_one s 47 _).mono ?_; rintro e w' ⟨rfl, rfl⟩; rw [h])
    have hw : IntKind.i64.wrap ((i : Int) + 1) = ((i + 1 : Nat) : Int) := by rw [IntKind.wrap_i64]; omega
    go_quiet (fail)
    go_wp2
    go_ret3
    exact ⟨.inr ⟨i, hlt, H.out.1, H.out.2, rfl⟩, below_drewN (Below.refl _ _) _⟩

theorem cut2_any (s : ByteArray) (w : World) (hs : s.size ≤ 9223372036854775807) :
    Calls Try.prog 89 #[.string s, .string ⟨#[47]⟩] w fun e w' => CutEnd s e ∧ Below w.heap.size w w' := by
  refine Calls.mono (R := fun e w' => (∃ a b c, e = .returned (.tuple #[.string a, .string b, .bool c]) ∧ CutEnd s e) ∧ Below w.heap.size w w') ?_ (fun e w' h => by obtain ⟨⟨a, b, c, _, hc⟩, hb⟩ := h; exact ⟨hc, hb⟩)
  go_enter Try.func89, Try.ntmps89
  go_wp2_with fail
  refine (cut1_any s _ hs).mono ?_
  rintro e w1 ⟨hc, hb⟩
  have he : ∃ a b c, e = .returned (.tuple #[.string a, .string b, .bool c]) := by
    rcases hc with ⟨_, h⟩ | ⟨i, _, _, _, h⟩ <;> exact ⟨_, _, _, h⟩
  obtain ⟨a, b, c, rfl⟩ := he
  have Hc := Lib.hid hc
  clear hc
  go_wp2_with fail
  go_ret3
  exact ⟨⟨a, b, c, rfl, Hc.out⟩, hb⟩

def lenAt (B : Nat) (w : World) : Nat := match w.cell? ⟨B, 0, none⟩ with
  | some (.string s) => s.size + 1
  | _ => 0
theorem lenAt_eq {B : Nat} {w : World} {s : ByteArray} (h : Bk w B 9 #[.string s]) : lenAt B w = s.size + 1 := by
  unfold lenAt; rw [show w.cell? ⟨B, 0, none⟩ = some (.string s) from h.cell 0]

theorem bides_same {Bn B : Nat} {I : List ByteArray → World → Prop} (h : Bides Bn B I) {s : List ByteArray} {W W' : World} (hs : I s W) (hb : Below W.heap.size W W') : I s W' :=
  h s W W' hs ⟨none, ⟨hb.os, hb.tape, hb.output, hb.size, fun k hk _ => hb.block k hk⟩, fun r e => by cases e⟩
theorem bides_set {Bn B : Nat} {I : List ByteArray → World → Prop} (h : Bides Bn B I) {s : List ByteArray} {W : World} (v : Value) (hs : I s W) : I s (W.setCell ⟨Bn, 0, none⟩ v) :=
  h s W _ hs ⟨some Bn, only_set W Bn 0 v, fun r e => by cases e; exact .inl rfl⟩

set_option maxRecDepth 20000 in
set_option maxHeartbeats 2000000 in
/-- The iterator gives a path's parts, one by one. -/
theorem parts_seq (n : Nat) (p : ByteArray) (hp : p.size ≤ 9223372036854775807) (Bn : Nat) :
    BoxSeq Try.prog n 88 #[.pointer (some ⟨Bn, 0, none⟩)] Bn (some (.cells #[.string p] 9 (0, 0))) (splB p) := by
  intro l J Jx W hW hJ hJx hY h0
  have hW' : Bk W Bn 9 #[.string p] := hW
  have hJ' : Bides Bn W.heap.size J := hJ
  refine callsIn_of_wp Try.func88 rfl trivial ?_
  simp only [Try.ntmps88, List.size_toArray, List.length_cons, List.length_nil, Nat.reduceAdd, Nat.reduceSub, Array.replicate_succ, Array.replicate_zero, List.push_toArray, List.append_toArray, List.nil_append, List.cons_append]
  have hlt := hW'.lt
  gi_wp2
  gi_loopw [3] (fun _ wr => ∃ (pre : List ByteArray) (r : ByteArray), splB p = pre ++ splB r ∧ r.size ≤ 9223372036854775807 ∧ Bk wr Bn 9 #[.string r] ∧ J pre wr) (fun _ wr => lenAt Bn wr)
  case atStart => exact ⟨[], p, rfl, hp, hW', h0⟩
  case round =>
    obtain ⟨pre, r, hx, hr, hB, hJs⟩ := hrel
    have r0 : wr.cell? ⟨Bn, 0, none⟩ = some (.string r) := hB.cell 0
    gi_wp2_with fail
    refine ⟨trivial, fun h => (by cases h), (callsIn_wide.2 (cut2_any r wr hr)).mono ?_⟩
    rintro e w1 ⟨hc, hb⟩
    have hJ1 := bides_same hJ' hJs hb
    have hB1 := hB.below' hb
    have hs1 := hb.size
    rcases hc with ⟨hn, rfl⟩ | ⟨i, hi, hn, he, rfl⟩
    · have hsp := splB_none r hn
      rw [hsp] at hx
      clear hn hb hJs hB r0
      obtain ⟨fn, tmps, assign, body, hy, hR⟩ := hY pre r w1 hJ1 (by rw [hx]; exact List.prefix_refl _)
      gi_wp2
      refine ⟨fun h => (by cases h), hR.mono ?_⟩
      rintro e W3 (⟨rfl, hJ3, hk3⟩ | ⟨rfl, hJx3⟩)
      · gi_wp2
        refine bodyPost_ret (results_none rfl _ _ _) rfl ?_
        exact ⟨⟨_, rfl⟩, .inl (by rw [hx]; exact hJ3)⟩
      · gi_wp2
        refine bodyPost_ret (results_none rfl _ _ _) rfl ?_
        exact ⟨⟨_, rfl⟩, .inr ⟨_, hJx3⟩⟩
    · have hsp := splB_some r i hi hn he
      rw [hsp] at hx
      have hz : (r.extract (i + 1) r.size).size ≤ 9223372036854775807 := by rw [← size_toList, toList_suf, List.length_drop, size_toList]; omega
      have hm : (r.extract (i + 1) r.size).size + 1 < r.size + 1 := by rw [← size_toList, toList_suf, List.length_drop, size_toList]; omega
      clear hn he hb hJs hsp
      obtain ⟨fn, tmps, assign, body, hy, hR⟩ := hY pre (r.extract 0 i) w1 hJ1 (by rw [hx]; exact ⟨splB (r.extract (i + 1) r.size), by simp⟩)
      generalize r.extract 0 i = x at *
      generalize r.extract (i + 1) r.size = r2 at *
      gi_wp2
      refine ⟨fun h => (by cases h), hR.mono ?_⟩
      rintro e W3 (⟨rfl, hJ3, hk3⟩ | ⟨rfl, hJx3⟩)
      · have hB3 : Bk W3 Bn 9 #[.string r] := hk3.trans hB1
        have r3 : W3.cell? ⟨Bn, 0, none⟩ = some (.string r) := hB3.cell 0
        have f3 := hB3.frozen 0
        have hJ4 := bides_set hJ' (.string r2) hJ3
        have hB4 : Bk (W3.setCell ⟨Bn, 0, none⟩ (.string r2)) Bn 9 #[.string r2] := hB3.set_ 0 _
        have hs4 : (W3.setCell ⟨Bn, 0, none⟩ (.string r2)).heap.size = W3.heap.size := by simp
        gi_wp2
        go_roundw
        case rel => exact ⟨pre ++ [x], r2, by rw [hx]; simp, hz, hB4, hJ4⟩
        case measure => rw [lenAt_eq hB4, lenAt_eq hB]; exact hm
      · gi_wp2
        refine bodyPost_ret (results_none rfl _ _ _) rfl ?_
        exact ⟨⟨_, rfl⟩, .inr ⟨_, hJx3⟩⟩
end Go.Proofs.Ytnhbkfefpkocaaa
