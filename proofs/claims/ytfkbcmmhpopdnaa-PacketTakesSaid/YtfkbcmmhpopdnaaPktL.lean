/-
  Packets: the law's light, chapter 26's example.
-/
import Derived.Test.YtfkbcmmhpopdnaaPktQ
import Derived.Test.YtfkbcmmhpopdnaaFrame
import Derived.Deep.OwnRows
namespace Go.Proofs.Ytfkbcmmhpopdnaa
open Go.RowKit

/-- What 'light' tells: if yes, the text is short. -/
def LightEnd (text : ByteArray) (w : World) (e : Ending) (w' : World) : Prop := ∃ b : Bool, e = .returned (.bool b) ∧ (b = true → text.size ≤ 1000) ∧ Below w.heap.size w w'
set_option maxRecDepth 20000 in
set_option maxHeartbeats 2000000 in
theorem light_any (kind fr seq id i n : Int) (text : ByteArray) (A : Option Addr) (pn pc : Nat) (P : List ByteArray) (w : World) (hP : P.length = pn) (hr : Rd w A (P.map Value.string)) (hn : pn ≤ 9223372036854775807) :
    Calls Try.prog 7 #[.agg #[.int .i64 kind, .int .i64 fr, .int .i64 seq, .int .i64 id, .int .i64 i, .int .i64 n, .string text, .slice A pn pc]] w (LightEnd text w) := by
  have HP := Lib.hid hP
  clear hP
  have hB := (Below.refl w.heap.size w).alloc (Nat.le_refl _) (.cells #[.int .i64 kind, .int .i64 fr, .int .i64 seq, .int .i64 id, .int .i64 i, .int .i64 n, .string text, .slice A pn pc] 24)
  have hG : Bk (w.alloc (.cells #[.int .i64 kind, .int .i64 fr, .int .i64 seq, .int .i64 id, .int .i64 i, .int .i64 n, .string text, .slice A pn pc] 24)) w.heap.size 24 #[.int .i64 kind, .int .i64 fr, .int .i64 seq, .int .i64 id, .int .i64 i, .int .i64 n, .string text, .slice A pn pc] := Bk.new _ _ _
  have hr0 := hr.below hB
  have g6 := hG.cell 6
  have g7 := hG.cell 7
  simp only [List.getElem?_toArray, List.getElem?_cons_succ, List.getElem?_cons_zero] at g6 g7
  clear hr hG
  go_enter Try.func7, Try.ntmps7
  go_wp2_with fail
  generalize w.alloc (.cells #[.int .i64 kind, .int .i64 fr, .int .i64 seq, .int .i64 id, .int .i64 i, .int .i64 n, .string text, .slice A pn pc] 24) = w1 at *
  go_loop [3] (fun x => ∃ k : Nat, k ≤ pn ∧ k ≤ 21 ∧ x = .int .i64 k) (fun x => pn - (intOf x).toNat)
  case atStart => exact ⟨0, by omega, by omega, rfl⟩
  case round =>
    obtain ⟨k, hk, hk2, rfl⟩ := hrel
    by_cases hlt : k < pn
    · by_cases h20 : k ≤ 20
      · obtain ⟨b0, o0, rfl, hcell⟩ := hr0.at_ (k := k) (by rw [List.length_map, HP.out]; exact hlt)
        obtain ⟨x, hx⟩ : ∃ x, P[k]? = some x := ⟨_, List.getElem?_eq_getElem (by rw [HP.out]; exact hlt)⟩
        have hcell' : w1.cell? ⟨b0, o0 + k, none⟩ = some (.string x) := by
          rw [hcell, List.getElem_map]
          congr 2
          exact Option.some.inj ((List.getElem?_eq_getElem _).symm.trans hx)
        clear hcell hx
        by_cases hz : 100 < x.size
        · go_wp2_with fail
          go_ret
          exact ⟨false, rfl, (fun h => by cases h), hB⟩
        · go_wp2_with fail
          go_round
          case rel => exact ⟨k + 1, by omega, by omega, by go_num⟩
          case measure => simp [intOf]; omega
      · go_wp2_with fail
        go_ret
        refine ⟨_, rfl, fun h => ?_, hB⟩
        first | (cases h; done) | (simp_all; done) | omega
    · by_cases h20 : pn ≤ 20
      · go_wp2_with fail
        go_ret
        exact ⟨_, rfl, (fun h => by have := of_decide_eq_true h; omega), hB⟩
      · go_wp2_with fail
        go_ret
        exact ⟨false, rfl, (fun h => by cases h), hB⟩

theorem Try.info5z : (Try.prog.info? 5).map (fun i => (i.zero, i.size, i.bytes)) = some (some (.int .u8 0), 1, 1) := by kernel_rfl
theorem zeros_conv (w : World) (k : Nat) (t : TypeId) : (convert 39 9 (.slice (some ⟨w.heap.size, 0, none⟩) k k)).run Try.prog (w.alloc (.cells (madeCells #[.int .u8 0] k) t)) = .ok (.string (ofL (List.replicate k 0))) (w.alloc (.cells (madeCells #[.int .u8 0] k) t)) := by
  refine conv_back _ 39 9 5 ⟨w.heap.size, 0, none⟩ k (List.replicate k 0) k (by simp) Try.underlying39 Try.underlying5 Try.underlying9 ?_
  intro j u hj
  rw [add_mk, World.cell?_alloc_mark]
  simp only [List.map_replicate] at hj
  have hjk : j < k := by have := (List.getElem?_eq_some_iff.1 hj).1; simpa using this
  rw [List.getElem?_replicate, if_pos hjk] at hj
  simp only [Option.some.injEq] at hj
  subst hj
  simp [madeCells, hjk, Nat.mod_one]

theorem awk_pkt : pktOk 4 1 2 3 0 0 (ofL (List.replicate 32 0)) [] = true := by
  rw [ok_4, size_ofL]; decide
theorem awk_bytes : pktS 4 1 2 3 0 0 (ofL (List.replicate 32 0)) [] = ⟨#[83, 76, 80, 49, 4, 0, 0, 0, 1, 0, 0, 0, 2, 0, 0, 0, 3]⟩ ++ ofL (List.replicate 32 0) := by
  have e : pktH 4 1 ++ ofL (be 2 4) ++ ofL (be 3 4) = ⟨#[83, 76, 80, 49, 4, 0, 0, 0, 1, 0, 0, 0, 2, 0, 0, 0, 3]⟩ := by decide
  unfold pktS
  rw [if_neg (by decide), if_neg (by decide), if_neg (by decide), e]
theorem pput_k (kind fr seq id i n : Int) (text : ByteArray) (A : Option Addr) (pn pc : Nat) (P : List ByteArray) (S : ByteArray) (hS : pktS kind fr seq id i n text P = S) (w : World) (hb : pktOk kind fr seq id i n text P = true) (hP : P.length = pn) (hpc : pn ≤ pc) (hr : Rd w A (P.map Value.string)) (ht : text.size ≤ 1000) (hn : pn ≤ 9223372036854775807) :
    Calls Try.prog 9 #[.agg #[.int .i64 kind, .int .i64 fr, .int .i64 seq, .int .i64 id, .int .i64 i, .int .i64 n, .string text, .slice A pn pc]] w fun e w' => e = .returned (.tuple #[.string S, .int .i64 0]) ∧ Below w.heap.size w w' := by
  subst hS; exact pput_any kind fr seq id i n text A pn pc P w hb hP hpc hr ht hn
theorem pputR_k (kind fr seq id i n : Int) (text : ByteArray) (A : Option Addr) (pn pc : Nat) (P : List ByteArray) (S : ByteArray) (hS : pktS kind fr seq id i n text P = S) (w : World) (hb : pktOk kind fr seq id i n text P = true) (hP : P.length = pn) (hpc : pn ≤ pc) (hr : Rd w A (P.map Value.string)) (ht : text.size ≤ 1000) (hn : pn ≤ 9223372036854775807) :
    Calls Try.prog 10 #[.agg #[.int .i64 kind, .int .i64 fr, .int .i64 seq, .int .i64 id, .int .i64 i, .int .i64 n, .string text, .slice A pn pc]] w fun e w' => e = .returned (.tuple #[.string S, .int .i64 0]) ∧ Below w.heap.size w w' := by
  subst hS; exact pputR_any kind fr seq id i n text A pn pc P w hb hP hpc hr ht hn

set_option maxRecDepth 20000 in
set_option maxHeartbeats 2000000 in
theorem awakeK_any (w : World) : Calls Try.prog 8 #[] w fun e w' => e = .returned (.bool true) ∧ Below w.heap.size w w' := by
  have hcv := zeros_conv w 32 5
  have hmk := run_make_row' (P := Try.prog) 39 5 (.int .u8 0) 1 Try.underlying39 Try.info5z rfl .i64 .i64 32 (by omega) (by omega)
  have hmk' : ∀ w : World, (Instr.makeSlice 39 (.int .i64 32) (.int .i64 32)).run Try.prog w = .ok (.slice (some ⟨w.heap.size, 0, none⟩) 32 32) (w.alloc (.cells (madeCells #[.int .u8 0] 32) 5)) := hmk
  clear hmk
  have h1 := awk_pkt
  have h2 := awk_bytes
  have hz : (ofL (List.replicate 32 0)).size = 32 := by rw [size_ofL]; rfl
  generalize ofL (List.replicate 32 0) = z at *
  have H1 := Lib.hid h1
  have H2 := Lib.hid h2
  have hz2 : z.size ≤ 1000 := by omega
  obtain ⟨d, hd⟩ : ∃ c, (⟨#[83, 76, 80, 49, 4, 0, 0, 0, 1, 0, 0, 0, 2, 0, 0, 0, 3]⟩ : ByteArray) ++ z = c := ⟨_, rfl⟩
  have m1 : ¬ (9223372036854775807 < 17 + z.size) := by omega
  rw [hd] at H2
  clear h1 h2 hz
  go_enter Try.func8, Try.ntmps8
  go_wp2_with fail
  (with_reducible refine (pput_k 4 1 2 3 0 0 z none 0 0 [] d H2.out _ H1.out rfl (by omega) (Rd.nil _ _) hz2 (by omega)).mono ?_)
  rintro e w1 ⟨rfl, hb1⟩
  clear hcv hmk'
  go_wp2_with fail
  go_ret
  exact ⟨rfl, bl ((Below.refl _ _).alloc (Nat.le_refl _) _) hb1⟩
end Go.Proofs.Ytfkbcmmhpopdnaa
