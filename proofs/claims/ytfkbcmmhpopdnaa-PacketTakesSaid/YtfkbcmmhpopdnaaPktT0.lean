/-
  The walk of packet.Take: what is none.
-/
import Derived.Test.YtfkbcmmhpopdnaaPktT1
import Derived.Deep.Cut
import Derived.Outline
namespace Go.Proofs.Ytfkbcmmhpopdnaa
open Go.RowKit

set_option maxRecDepth 20000 in
set_option maxHeartbeats 8000000 in
theorem ptake_0 (s t s1 s2 s3 s4 x : ByteArray) (c b1 b2 b3 b4 : Bool) (kind fr id : Int) (n1 : ¬ kind = 1) (n2 : ¬ kind = 2) (n3 : ¬ kind = 3) (n4 : ¬ kind = 4) (w : World) (hs : s.size ≤ 1000) (hc : cutP s ⟨#[83, 76, 80, 49]⟩ = (t, c)) (h1 : rdN t (!c) 1 = (kind, s1, b1)) (h2 : rdN s1 b1 4 = (fr, s2, b2)) (h3 : rdN s2 b2 4 = (id, s3, b3)) (h4 : rdT s3 b3 s3.size = (x, s4, b4)) :
    Calls Try.prog 12 #[.string s] w (TakeEnd s w) := by
  have zt := cutP_size hc
  have z1 := rdN_size h1
  have z2 := rdN_size h2
  have z3 := rdN_size h3
  have z4 := rdT_size h4
  have H3 := Lib.hid h3
  have H4 := Lib.hid h4
  clear h3 h4
  have e1 : (kind == 1) = false := by rw [beq_eq_false_iff_ne]; exact n1
  have e1b : (kind != 1) = true := by simp [bne, e1]
  have e2 : (kind == 2) = false := by rw [beq_eq_false_iff_ne]; exact n2
  have e3 : (kind == 3) = false := by rw [beq_eq_false_iff_ne]; exact n3
  have e4 : (kind == 4) = false := by rw [beq_eq_false_iff_ne]; exact n4
  have Hc := Lib.hid hc
  have H1 := Lib.hid h1
  have H2 := Lib.hid h2
  clear hc h1 h2
  go_enter Try.func12, Try.ntmps12
  go_wp2_with fail
  (with_reducible refine (cutP_any s _ t c Hc.out _).mono ?_)
  rintro e w1 ⟨rfl, rfl⟩
  obtain ⟨nc, hnc⟩ : ∃ nc, (!c) = nc := ⟨_, rfl⟩
  rw [hnc] at H1
  go_upto_region 3 with (fail)
  have hR : Bk ((w.alloc (.cells #[.int .i64 0, .int .i64 0, .int .i64 0, .int .i64 0, .int .i64 0, .int .i64 0, .string ⟨#[]⟩, .slice none 0 0] 24)).alloc (.cells #[.string t, .bool nc] 58)) w.heap.size 24 #[.int .i64 0, .int .i64 0, .int .i64 0, .int .i64 0, .int .i64 0, .int .i64 0, .string ⟨#[]⟩, .slice none 0 0] := (Bk.new _ _ _).alloc _
  have hP : Bk ((w.alloc (.cells #[.int .i64 0, .int .i64 0, .int .i64 0, .int .i64 0, .int .i64 0, .int .i64 0, .string ⟨#[]⟩, .slice none 0 0] 24)).alloc (.cells #[.string t, .bool nc] 58)) (w.heap.size + 1) 58 #[.string t, .bool nc] := by
    have h := Bk.new (w.alloc (.cells #[.int .i64 0, .int .i64 0, .int .i64 0, .int .i64 0, .int .i64 0, .int .i64 0, .string ⟨#[]⟩, .slice none 0 0] 24)) 58 #[.string t, .bool nc]
    rw [World.size_alloc] at h
    exact h
  have hb : Below w.heap.size w ((w.alloc (.cells #[.int .i64 0, .int .i64 0, .int .i64 0, .int .i64 0, .int .i64 0, .int .i64 0, .string ⟨#[]⟩, .slice none 0 0] 24)).alloc (.cells #[.string t, .bool nc] 58)) := ((Below.refl w.heap.size w).alloc (Nat.le_refl _) _).alloc (by simp) _
  have hz : w.heap.size + 2 ≤ ((w.alloc (.cells #[.int .i64 0, .int .i64 0, .int .i64 0, .int .i64 0, .int .i64 0, .int .i64 0, .string ⟨#[]⟩, .slice none 0 0] 24)).alloc (.cells #[.string t, .bool nc] 58)).heap.size := by simp
  generalize (w.alloc (.cells #[.int .i64 0, .int .i64 0, .int .i64 0, .int .i64 0, .int .i64 0, .int .i64 0, .string ⟨#[]⟩, .slice none 0 0] 24)).alloc (.cells #[.string t, .bool nc] 58) = w0 at *
  go_wp2_with fail
  (refine (rnum_any (w.heap.size + 1) t s1 nc b1 1 kind H1.out (by omega) (by omega) (by omega) _ hP).mono ?_)
  rintro e w1 ⟨rfl, hP1, ho1⟩
  have hR1 := hR.only ho1 (by omega)
  have hb1 := hb.trans (below_only (B := w.heap.size) ho1 (by omega) hb.size)
  have hz1 := Nat.le_trans hz ho1.size
  clear hP hR hb ho1 hz
  have hP := hP1
  have hR := hR1
  have hb := hb1
  have hz := hz1
  clear hP1 hR1 hb1 hz1
  obtain ⟨w0, rfl⟩ : ∃ w0 : World, w0 = w1 := ⟨_, rfl⟩
  go_wp2_with fail
  (refine (rnum_any (w.heap.size + 1) s1 s2 b1 b2 4 fr H2.out (by omega) (by omega) (by omega) _ hP).mono ?_)
  rintro e w1 ⟨rfl, hP1, ho1⟩
  have hR1 := hR.only ho1 (by omega)
  have hb1 := hb.trans (below_only (B := w.heap.size) ho1 (by omega) hb.size)
  have hz1 := Nat.le_trans hz ho1.size
  clear hP hR hb ho1 hz
  have hP := hP1
  have hR := hR1
  have hb := hb1
  have hz := hz1
  clear hP1 hR1 hb1 hz1
  obtain ⟨w0, rfl⟩ : ∃ w0 : World, w0 = w1 := ⟨_, rfl⟩
  go_upto_region 4 with (fail)
  have hG : Bk (w0.alloc (.cells #[.int .i64 kind, .int .i64 fr, .int .i64 0, .int .i64 0, .int .i64 0, .int .i64 0, .string ⟨#[]⟩, .slice none 0 0] 24)) w0.heap.size 24 #[.int .i64 kind, .int .i64 fr, .int .i64 0, .int .i64 0, .int .i64 0, .int .i64 0, .string ⟨#[]⟩, .slice none 0 0] := Bk.new _ _ _
  have hR1 := hR.alloc (.cells #[.int .i64 kind, .int .i64 fr, .int .i64 0, .int .i64 0, .int .i64 0, .int .i64 0, .string ⟨#[]⟩, .slice none 0 0] 24)
  have hP1 := hP.alloc (.cells #[.int .i64 kind, .int .i64 fr, .int .i64 0, .int .i64 0, .int .i64 0, .int .i64 0, .string ⟨#[]⟩, .slice none 0 0] 24)
  have hb1 := hb.alloc hb.size (.cells #[.int .i64 kind, .int .i64 fr, .int .i64 0, .int .i64 0, .int .i64 0, .int .i64 0, .string ⟨#[]⟩, .slice none 0 0] 24)
  have hz1 : w.heap.size + 2 ≤ (w0.alloc (.cells #[.int .i64 kind, .int .i64 fr, .int .i64 0, .int .i64 0, .int .i64 0, .int .i64 0, .string ⟨#[]⟩, .slice none 0 0] 24)).heap.size := by simp; omega
  clear hR hP hb
  have hR := hR1
  have hP := hP1
  have hb := hb1
  clear hR1 hP1 hb1
  generalize w0.alloc (.cells #[.int .i64 kind, .int .i64 fr, .int .i64 0, .int .i64 0, .int .i64 0, .int .i64 0, .string ⟨#[]⟩, .slice none 0 0] 24) = w2 at *
  generalize w0.heap.size = G at *
  have hgG : w.heap.size + 2 ≤ G := hz
  clear hz
  have hz := hz1
  clear hz1
  have HNC := Lib.hid hnc
  clear hnc
  have k0 : w2.cell? ⟨G, 0, none⟩ = some (.int .i64 kind) := hG.cell 0
  go_wp2_with fail
  (refine (rnum_any (w.heap.size + 1) s2 s3 b2 b3 4 id H3.out (by omega) (by omega) (by omega) _ hP).mono ?_)
  rintro e w1 ⟨rfl, hP1, ho1⟩
  have hR1 := hR.only ho1 (by omega)
  have hG1 := hG.only ho1 (by omega)
  have hb1 := hb.trans (below_only (B := w.heap.size) ho1 (by omega) hb.size)
  have hz1 := Nat.le_trans hz ho1.size
  clear hP hR hG hb ho1 hz
  clear k0
  have q0 : w1.cell? ⟨G, 3, none⟩ = some (.int .i64 0) := hG1.cell 3
  have q1 := hG1.frozen 3
  have ho2 := only_set w1 G 3 (.int .i64 id)
  have hG : Bk (w1.setCell ⟨G, 3, none⟩ (.int .i64 id)) G 24 #[.int .i64 kind, .int .i64 fr, .int .i64 0, .int .i64 id, .int .i64 0, .int .i64 0, .string ⟨#[]⟩, .slice none 0 0] := hG1.set_ 3 _
  have hP := hP1.only ho2 (by omega)
  have hR := hR1.only ho2 (by omega)
  have hb := hb1.trans (below_only (B := w.heap.size) ho2 (by omega) hb1.size)
  have hz := Nat.le_trans hz1 ho2.size
  clear hP1 hR1 hG1 hb1 ho2 hz1
  have k0 : (w1.setCell ⟨G, 3, none⟩ (.int .i64 id)).cell? ⟨G, 0, none⟩ = some (.int .i64 kind) := hG.cell 0
  go_upto_region 8 with (fail)
  generalize w1.setCell ⟨G, 3, none⟩ (.int .i64 id) = w2 at *
  clear q0 q1
  clear k0
  have k0 : w2.cell? ⟨G, 0, none⟩ = some (.int .i64 kind) := hG.cell 0
  have p0 : w2.cell? ⟨w.heap.size + 1, 0, none⟩ = some (.string s3) := hP.cell 0
  go_wp2_with fail
  (refine (rtext_any (w.heap.size + 1) s3 x s4 b3 b4 s3.size H4.out (by omega) (by omega) _ hP).mono ?_)
  rintro e w1 ⟨rfl, hP1, ho1⟩
  have hR1 := hR.only ho1 (by omega)
  have hG1 := hG.only ho1 (by omega)
  have hb1 := hb.trans (below_only (B := w.heap.size) ho1 (by omega) hb.size)
  have hz1 := Nat.le_trans hz ho1.size
  clear hP hR hG hb ho1 hz
  clear k0 p0
  have q0 : w1.cell? ⟨G, 6, none⟩ = some (.string ⟨#[]⟩) := hG1.cell 6
  have q1 := hG1.frozen 6
  have ho2 := only_set w1 G 6 (.string x)
  have hG : Bk (w1.setCell ⟨G, 6, none⟩ (.string x)) G 24 #[.int .i64 kind, .int .i64 fr, .int .i64 0, .int .i64 id, .int .i64 0, .int .i64 0, .string x, .slice none 0 0] := hG1.set_ 6 _
  have hP := hP1.only ho2 (by omega)
  have hR := hR1.only ho2 (by omega)
  have hb := hb1.trans (below_only (B := w.heap.size) ho2 (by omega) hb1.size)
  have hz := Nat.le_trans hz1 ho2.size
  clear hP1 hR1 hG1 hb1 ho2 hz1
  go_upto_region 20 with (fail)
  generalize w1.setCell ⟨G, 6, none⟩ (.string x) = w2 at *
  clear q0 q1
  have HN := Lib.hid (show kind < 1 ∨ 4 < kind from by omega)
  have p0 : w2.cell? ⟨w.heap.size + 1, 0, none⟩ = some (.string s4) := hP.cell 0
  have p1 : w2.cell? ⟨w.heap.size + 1, 1, none⟩ = some (.bool b4) := hP.cell 1
  have HCMP := Lib.hid (show ∀ (k' fr' seq' id' i' n' : Int) (x' : ByteArray) (P' : List ByteArray), pktOk k' fr' seq' id' i' n' x' P' = true → pktS k' fr' seq' id' i' n' x' P' = s → Left s4 b4 ∧ pktOk kind fr 0 id 0 0 x [] = true from (fun k' fr' seq' id' i' n' x' P' ho hS => by obtain ⟨e1, e2, e3, e4⟩ := head_b Hc.out (HNC.out ▸ H1.out) H2.out ho hS; subst e1; exact absurd (ok_kind ho) (by have := HN.out; omega)))
  cases b4 with
  | true =>
    have HNO := Lib.hid (show ∀ (k' fr' seq' id' i' n' : Int) (x' : ByteArray) (P' : List ByteArray), pktOk k' fr' seq' id' i' n' x' P' = true → ¬ pktS k' fr' seq' id' i' n' x' P' = s from fun _ _ _ _ _ _ _ _ ho hS => by have h := (HCMP.out _ _ _ _ _ _ _ _ ho hS).1.1; cases h)
    have r0 := hR.cell 0
    have r1 := hR.cell 1
    have r2 := hR.cell 2
    have r3 := hR.cell 3
    have r4 := hR.cell 4
    have r5 := hR.cell 5
    have r6 := hR.cell 6
    have r7 := hR.cell 7
    simp only [List.getElem?_toArray, List.getElem?_cons_succ, List.getElem?_cons_zero] at r0 r1 r2 r3 r4 r5 r6 r7
    have f0 := hR.frozen 0
    have f1 := hR.frozen 1
    have f2 := hR.frozen 2
    have f3 := hR.frozen 3
    have f4 := hR.frozen 4
    have f5 := hR.frozen 5
    have f6 := hR.frozen 6
    have f7 := hR.frozen 7
    go_wp2_with fail
    exact bodyPost_ret (v := .tuple #[.agg #[.int .i64 0, .int .i64 0, .int .i64 0, .int .i64 0, .int .i64 0, .int .i64 0, .string ⟨#[]⟩, .slice none 0 0], .int .i64 2]) (by simp [results, Try.results12, go_sem, r0, r1, r2, r3, r4, r5, r6, r7]) rfl (.inr ⟨HNO.out, rfl, set8_below hb (Nat.le_refl _) _ _ _ _ _ _ _ _⟩)
  | false =>
    by_cases h0 : s4.size = 0
    · have t0 : (s4.toList == ([] : List UInt8)) = true := by rw [empty_of h0]; rfl
      have t1 : (s4.toList != ([] : List UInt8)) = false := by rw [empty_of h0]; rfl
      have HL := Lib.hid (show Left s4 false from ⟨rfl, h0⟩)
      clear h0
      have hok : pktOk kind fr 0 id 0 0 x [] = false := pktOk_lo rfl HN.out
      have Hok := Lib.hid hok
      clear hok
      have HNO := Lib.hid (show ∀ (k' fr' seq' id' i' n' : Int) (x' : ByteArray) (P' : List ByteArray), pktOk k' fr' seq' id' i' n' x' P' = true → ¬ pktS k' fr' seq' id' i' n' x' P' = s from fun _ _ _ _ _ _ _ _ ho hS => by have h := (HCMP.out _ _ _ _ _ _ _ _ ho hS).2; rw [Hok.out] at h; cases h)
      have g0 := hG.cell 0
      have g1 := hG.cell 1
      have g2 := hG.cell 2
      have g3 := hG.cell 3
      have g4 := hG.cell 4
      have g5 := hG.cell 5
      have g6 := hG.cell 6
      have g7 := hG.cell 7
      simp only [List.getElem?_toArray, List.getElem?_cons_succ, List.getElem?_cons_zero] at g0 g1 g2 g3 g4 g5 g6 g7
      go_wp2_with fail
      (with_reducible refine (pcheck_any kind fr 0 id 0 0 x none 0 0 [] false _ Hok.out rfl (Rd.nil _ _) (by omega) (by omega)).mono ?_)
      rintro e w3 ⟨rfl, hb3⟩
      have hR3 := hR.below' hb3
      have hb4 := below_then hb hb3 hb.size
      clear hR hb hb3 hP hG g0 g1 g2 g3 g4 g5 g6 g7 p0 p1
      have hR := hR3
      have hb := hb4
      clear hR3 hb4
      have hk1 : okE false = 1 := rfl
      rw [hk1]
      clear hk1
      have r0 := hR.cell 0
      have r1 := hR.cell 1
      have r2 := hR.cell 2
      have r3 := hR.cell 3
      have r4 := hR.cell 4
      have r5 := hR.cell 5
      have r6 := hR.cell 6
      have r7 := hR.cell 7
      simp only [List.getElem?_toArray, List.getElem?_cons_succ, List.getElem?_cons_zero] at r0 r1 r2 r3 r4 r5 r6 r7
      have f0 := hR.frozen 0
      have f1 := hR.frozen 1
      have f2 := hR.frozen 2
      have f3 := hR.frozen 3
      have f4 := hR.frozen 4
      have f5 := hR.frozen 5
      have f6 := hR.frozen 6
      have f7 := hR.frozen 7
      go_wp2_with fail
      exact bodyPost_ret (v := .tuple #[.agg #[.int .i64 0, .int .i64 0, .int .i64 0, .int .i64 0, .int .i64 0, .int .i64 0, .string ⟨#[]⟩, .slice none 0 0], .int .i64 2]) (by simp [results, Try.results12, go_sem, r0, r1, r2, r3, r4, r5, r6, r7]) rfl (.inr ⟨HNO.out, rfl, set8_below hb (Nat.le_refl _) _ _ _ _ _ _ _ _⟩)
    · have t0 : (s4.toList == ([] : List UInt8)) = false := by rw [beq_eq_false_iff_ne]; intro e; exact h0 (by rw [← size_toList, e]; rfl)
      have t1 : (s4.toList != ([] : List UInt8)) = true := by simp [bne, t0]
      have HNO := Lib.hid (show ∀ (k' fr' seq' id' i' n' : Int) (x' : ByteArray) (P' : List ByteArray), pktOk k' fr' seq' id' i' n' x' P' = true → ¬ pktS k' fr' seq' id' i' n' x' P' = s from fun _ _ _ _ _ _ _ _ ho hS => h0 (HCMP.out _ _ _ _ _ _ _ _ ho hS).1.2)
      clear h0
      have r0 := hR.cell 0
      have r1 := hR.cell 1
      have r2 := hR.cell 2
      have r3 := hR.cell 3
      have r4 := hR.cell 4
      have r5 := hR.cell 5
      have r6 := hR.cell 6
      have r7 := hR.cell 7
      simp only [List.getElem?_toArray, List.getElem?_cons_succ, List.getElem?_cons_zero] at r0 r1 r2 r3 r4 r5 r6 r7
      have f0 := hR.frozen 0
      have f1 := hR.frozen 1
      have f2 := hR.frozen 2
      have f3 := hR.frozen 3
      have f4 := hR.frozen 4
      have f5 := hR.frozen 5
      have f6 := hR.frozen 6
      have f7 := hR.frozen 7
      go_wp2_with fail
      exact bodyPost_ret (v := .tuple #[.agg #[.int .i64 0, .int .i64 0, .int .i64 0, .int .i64 0, .int .i64 0, .int .i64 0, .string ⟨#[]⟩, .slice none 0 0], .int .i64 2]) (by simp [results, Try.results12, go_sem, r0, r1, r2, r3, r4, r5, r6, r7]) rfl (.inr ⟨HNO.out, rfl, set8_below hb (Nat.le_refl _) _ _ _ _ _ _ _ _⟩)
end Go.Proofs.Ytfkbcmmhpopdnaa
