/-
  The walk of packet.Take: data.
-/
import Derived.Test.YtfkbcmmhpopdnaaPktT1
import Derived.Deep.Cut
import Derived.Outline
import Derived.Deep.RegionLaw
namespace Go.Proofs.Ytfkbcmmhpopdnaa
open Go.RowKit

/-- Append of one element that was just laid in a block of its own, in a region that draws its order. -/
theorem step_append_new {P : Program} {ops : Array Oper} {o : Oper} {a : Act} {w : World} {K : Act → World → Prop} {Q : Exit → Act → World → Prop} {E : Prop} (hgd : o.guard = none) (s x : Operand) (t : TypeId)
    (ho : o.op = .call { callee := .builtin .append, args := #[s, x], argTypes := #[t, t] })
    (base : Nat) (e : TypeId) (size bytes : Nat) (hel : El P t e size bytes) (v : Value) (n : Nat) (xs : List Value) (hown : w.ownsRow base e size v n xs) (hs : a.eval s = v) (C : Array Value) (ad : Addr)
    (hx : a.eval x = .slice (some ad) 1 1) (hcell : ∀ j u, C.toList[j]? = some u → w.cell? (ad.add j) = some u) (hC : C.size = size) (h1 : ∀ u ∈ C.toList, u.oneCell' = true)
    (h63 : n + 1 ≤ maxLen) (hbytes : (n + 1) * bytes ≤ 140737488355328) (hbase : base ≤ w.heap.size)
    (hK : ∀ v' w', w'.ownsRow base e size v' (n + 1) (xs ++ C.toList) → Below base w w' → K (a.put o.dst v') w') :
    if Region.wanted o (yielded ops a.tmps) = true then Oper.wp P o a w K Q else E := by
  obtain ⟨ht, hsz, i, z, hi, hz, hsize, hby, hzs⟩ := hel
  have hw : Region.wanted o (yielded ops a.tmps) = true := by simp [Region.wanted, hgd]
  rw [if_pos hw]
  obtain ⟨v', w', hrun, r1, r2, r3⟩ := run_append_own (P := P) w base t o.type e i z size bytes ht hi hz hsize hby hzs hsz v n xs hown ad 1 1 C.toList (by simp [hC]) hcell h1 h63 hbytes hbase
  unfold Oper.wp
  simp [execOp, ho, resolve, invoke, builtin, hs, hx, hrun, Result.andThen]
  exact hK v' w' r1 ((Below.refl _ _).grown r2 hbase fun k hk => (hown.lt k hk).1)
theorem Try.info9s : (Try.prog.info? 9).map (fun i => (i.zero, i.size, i.bytes)) = some (some (.string ⟨#[]⟩), 1, 16) := by kernel_rfl
theorem el_str : El Try.prog 22 9 1 16 := El.mk_ (z := .string ⟨#[]⟩) Try.underlying22 Try.info9s (by omega) rfl
/-- What memory holds while a packet's proof is read. -/
def LpW (w : World) (G base : Nat) (fr id i : Int) (x : ByteArray) (L : List ByteArray) (sj : ByteArray) (bj : Bool) (wr : World) : Prop :=
  ∃ v, Bk wr w.heap.size 24 #[.int .i64 0, .int .i64 0, .int .i64 0, .int .i64 0, .int .i64 0, .int .i64 0, .string ⟨#[]⟩, .slice none 0 0] ∧ Bk wr (w.heap.size + 1) 58 #[.string sj, .bool bj] ∧ Bk wr G 24 #[.int .i64 2, .int .i64 fr, .int .i64 0, .int .i64 id, .int .i64 i, .int .i64 0, .string x, v] ∧
    wr.ownsRow base 9 1 v L.length (L.map Value.string) ∧ Below w.heap.size w wr ∧ base ≤ wr.heap.size
theorem rdP_end {d : Nat} {s : ByteArray} {b : Bool} (h : d = 0 ∨ b = true) : rdP d s b = ([], s, b) := by
  rcases h with rfl | rfl
  · rfl
  · exact rdP_bad _ _
theorem rdP_next {M d : Nat} {s6 sj : ByteArray} {b6 : Bool} {L : List ByteArray} {t r : ByteArray} {b2 : Bool} (h : rdP M s6 b6 = (L ++ (rdP (d + 1) sj false).1, (rdP (d + 1) sj false).2)) (hq : rdT sj false 32 = (t, r, b2)) :
    rdP M s6 b6 = ((L ++ [t]) ++ (rdP d r b2).1, (rdP d r b2).2) := by
  rw [h, rdP_s, hq]
  simp

set_option maxRecDepth 20000 in
set_option maxHeartbeats 8000000 in
theorem ptake_2 (s t s1 s2 s3 s4 s5 s6 s7 x : ByteArray) (c b1 b2 b3 b4 b5 b6 b7 : Bool) (fr id i m : Int) (P : List ByteArray) (w : World) (hs : s.size ≤ 1000) (hc : cutP s ⟨#[83, 76, 80, 49]⟩ = (t, c)) (h1 : rdN t (!c) 1 = (2, s1, b1)) (h2 : rdN s1 b1 4 = (fr, s2, b2)) (h3 : rdN s2 b2 4 = (id, s3, b3)) (h4 : rdN s3 b3 2 = (i, s4, b4)) (h5 : rdT s4 b4 224 = (x, s5, b5)) (h6 : rdN s5 b5 1 = (m, s6, b6)) (h7 : rdP m.toNat s6 b6 = (P, s7, b7)) :
    Calls Try.prog 12 #[.string s] w (TakeEnd s w) := by
  have zt := cutP_size hc
  have z1 := rdN_size h1
  have z2 := rdN_size h2
  have z3 := rdN_size h3
  have z4 := rdN_size h4
  have z5 := rdT_size h5
  have z6 := rdN_size h6
  have zm := rdN_num h6
  have H3 := Lib.hid h3
  have H4 := Lib.hid h4
  have H5 := Lib.hid h5
  have H6 := Lib.hid h6
  have H7 := Lib.hid h7
  clear h3 h4 h5 h6 h7
  have Hc := Lib.hid hc
  have H1 := Lib.hid h1
  have H2 := Lib.hid h2
  clear hc h1 h2
  go_enter Try.func12, Try.ntmps12
  go_wp2_with fail
  (with_reducible refine (cutP_any s _ t c Hc.out _).mono ?_)
  rintro e w1 ⟨rfl, rfl⟩
  obtain ⟨nc, hnc⟩ : ∃ nc, (!c) = nc := ⟨_, rfl⟩
  rw [hnc] at H1
  go_upto_region 3 with (fail)
  have hR : Bk ((w.alloc (.cells #[.int .i64 0, .int .i64 0, .int .i64 0, .int .i64 0, .int .i64 0, .int .i64 0, .string ⟨#[]⟩, .slice none 0 0] 24)).alloc (.cells #[.string t, .bool nc] 58)) w.heap.size 24 #[.int .i64 0, .int .i64 0, .int .i64 0, .int .i64 0, .int .i64 0, .int .i64 0, .string ⟨#[]⟩, .slice none 0 0] := (Bk.new _ _ _).alloc _
  have hP : Bk ((w.alloc (.cells #[.int .i64 0, .int .i64 0, .int .i64 0, .int .i64 0, .int .i64 0, .int .i64 0, .string ⟨#[]⟩, .slice none 0 0] 24)).alloc (.cells #[.string t, .bool nc] 58)) (w.heap.size + 1) 58 #[.string t, .bool nc] := by
    have h := Bk.new (w.alloc (.cells #[.int .i64 0, .int .i64 0, .int .i64 0, .int .i64 0, .int .i64 0, .int .i64 0, .string ⟨#[]⟩, .slice none 0 0] 24)) 58 #[.string t, .bool nc]
    rw [World.size_alloc] at h
    exact h
  have hb : Below w.heap.size w ((w.alloc (.cells #[.int .i64 0, .int .i64 0, .int .i64 0, .int .i64 0, .int .i64 0, .int .i64 0, .string ⟨#[]⟩, .slice none 0 0] 24)).alloc (.cells #[.string t, .bool nc] 58)) := ((Below.refl w.heap.size w).alloc (Nat.le_refl _) _).alloc (by simp) _
  have hz : w.heap.size + 2 ≤ ((w.alloc (.cells #[.int .i64 0, .int .i64 0, .int .i64 0, .int .i64 0, .int .i64 0, .int .i64 0, .string ⟨#[]⟩, .slice none 0 0] 24)).alloc (.cells #[.string t, .bool nc] 58)).heap.size := by simp
  generalize (w.alloc (.cells #[.int .i64 0, .int .i64 0, .int .i64 0, .int .i64 0, .int .i64 0, .int .i64 0, .string ⟨#[]⟩, .slice none 0 0] 24)).alloc (.cells #[.string t, .bool nc] 58) = w0 at *
  go_wp2_with fail
  (refine (rnum_any (w.heap.size + 1) t s1 nc b1 1 2 H1.out (by omega) (by omega) (by omega) _ hP).mono ?_)
  rintro e w1 ⟨rfl, hP1, ho1⟩
  have hR1 := hR.only ho1 (by omega)
  have hb1 := hb.trans (below_only (B := w.heap.size) ho1 (by omega) hb.size)
  have hz1 := Nat.le_trans hz ho1.size
  clear hP hR hb ho1 hz
  have hP := hP1
  have hR := hR1
  have hb := hb1
  have hz := hz1
  clear hP1 hR1 hb1 hz1
  obtain ⟨w0, rfl⟩ : ∃ w0 : World, w0 = w1 := ⟨_, rfl⟩
  go_wp2_with fail
  (refine (rnum_any (w.heap.size + 1) s1 s2 b1 b2 4 fr H2.out (by omega) (by omega) (by omega) _ hP).mono ?_)
  rintro e w1 ⟨rfl, hP1, ho1⟩
  have hR1 := hR.only ho1 (by omega)
  have hb1 := hb.trans (below_only (B := w.heap.size) ho1 (by omega) hb.size)
  have hz1 := Nat.le_trans hz ho1.size
  clear hP hR hb ho1 hz
  have hP := hP1
  have hR := hR1
  have hb := hb1
  have hz := hz1
  clear hP1 hR1 hb1 hz1
  obtain ⟨w0, rfl⟩ : ∃ w0 : World, w0 = w1 := ⟨_, rfl⟩
  go_upto_region 4 with (fail)
  have hG : Bk (w0.alloc (.cells #[.int .i64 2, .int .i64 fr, .int .i64 0, .int .i64 0, .int .i64 0, .int .i64 0, .string ⟨#[]⟩, .slice none 0 0] 24)) w0.heap.size 24 #[.int .i64 2, .int .i64 fr, .int .i64 0, .int .i64 0, .int .i64 0, .int .i64 0, .string ⟨#[]⟩, .slice none 0 0] := Bk.new _ _ _
  have hR1 := hR.alloc (.cells #[.int .i64 2, .int .i64 fr, .int .i64 0, .int .i64 0, .int .i64 0, .int .i64 0, .string ⟨#[]⟩, .slice none 0 0] 24)
  have hP1 := hP.alloc (.cells #[.int .i64 2, .int .i64 fr, .int .i64 0, .int .i64 0, .int .i64 0, .int .i64 0, .string ⟨#[]⟩, .slice none 0 0] 24)
  have hb1 := hb.alloc hb.size (.cells #[.int .i64 2, .int .i64 fr, .int .i64 0, .int .i64 0, .int .i64 0, .int .i64 0, .string ⟨#[]⟩, .slice none 0 0] 24)
  have hz1 : w.heap.size + 2 ≤ (w0.alloc (.cells #[.int .i64 2, .int .i64 fr, .int .i64 0, .int .i64 0, .int .i64 0, .int .i64 0, .string ⟨#[]⟩, .slice none 0 0] 24)).heap.size := by simp; omega
  clear hR hP hb
  have hR := hR1
  have hP := hP1
  have hb := hb1
  clear hR1 hP1 hb1
  generalize w0.alloc (.cells #[.int .i64 2, .int .i64 fr, .int .i64 0, .int .i64 0, .int .i64 0, .int .i64 0, .string ⟨#[]⟩, .slice none 0 0] 24) = w2 at *
  generalize w0.heap.size = G at *
  have hgG : w.heap.size + 2 ≤ G := hz
  clear hz
  have hz := hz1
  clear hz1
  have HNC := Lib.hid hnc
  clear hnc
  have k0 : w2.cell? ⟨G, 0, none⟩ = some (.int .i64 2) := hG.cell 0
  go_wp2_with fail
  (refine (rnum_any (w.heap.size + 1) s2 s3 b2 b3 4 id H3.out (by omega) (by omega) (by omega) _ hP).mono ?_)
  rintro e w1 ⟨rfl, hP1, ho1⟩
  have hR1 := hR.only ho1 (by omega)
  have hG1 := hG.only ho1 (by omega)
  have hb1 := hb.trans (below_only (B := w.heap.size) ho1 (by omega) hb.size)
  have hz1 := Nat.le_trans hz ho1.size
  clear hP hR hG hb ho1 hz
  clear k0
  have q0 : w1.cell? ⟨G, 3, none⟩ = some (.int .i64 0) := hG1.cell 3
  have q1 := hG1.frozen 3
  have ho2 := only_set w1 G 3 (.int .i64 id)
  have hG : Bk (w1.setCell ⟨G, 3, none⟩ (.int .i64 id)) G 24 #[.int .i64 2, .int .i64 fr, .int .i64 0, .int .i64 id, .int .i64 0, .int .i64 0, .string ⟨#[]⟩, .slice none 0 0] := hG1.set_ 3 _
  have hP := hP1.only ho2 (by omega)
  have hR := hR1.only ho2 (by omega)
  have hb := hb1.trans (below_only (B := w.heap.size) ho2 (by omega) hb1.size)
  have hz := Nat.le_trans hz1 ho2.size
  clear hP1 hR1 hG1 hb1 ho2 hz1
  have k0 : (w1.setCell ⟨G, 3, none⟩ (.int .i64 id)).cell? ⟨G, 0, none⟩ = some (.int .i64 2) := hG.cell 0
  go_upto_region 8 with (fail)
  generalize w1.setCell ⟨G, 3, none⟩ (.int .i64 id) = w2 at *
  clear q0 q1
  clear k0
  have k0 : w2.cell? ⟨G, 0, none⟩ = some (.int .i64 2) := hG.cell 0
  go_wp2_with fail
  (refine (rnum_any (w.heap.size + 1) s3 s4 b3 b4 2 i H4.out (by omega) (by omega) (by omega) _ hP).mono ?_)
  rintro e w1 ⟨rfl, hP1, ho1⟩
  have hR1 := hR.only ho1 (by omega)
  have hG1 := hG.only ho1 (by omega)
  have hb1 := hb.trans (below_only (B := w.heap.size) ho1 (by omega) hb.size)
  have hz1 := Nat.le_trans hz ho1.size
  clear hP hR hG hb ho1 hz
  clear k0
  have q0 : w1.cell? ⟨G, 4, none⟩ = some (.int .i64 0) := hG1.cell 4
  have q1 := hG1.frozen 4
  have ho2 := only_set w1 G 4 (.int .i64 i)
  have hG : Bk (w1.setCell ⟨G, 4, none⟩ (.int .i64 i)) G 24 #[.int .i64 2, .int .i64 fr, .int .i64 0, .int .i64 id, .int .i64 i, .int .i64 0, .string ⟨#[]⟩, .slice none 0 0] := hG1.set_ 4 _
  have hP := hP1.only ho2 (by omega)
  have hR := hR1.only ho2 (by omega)
  have hb := hb1.trans (below_only (B := w.heap.size) ho2 (by omega) hb1.size)
  have hz := Nat.le_trans hz1 ho2.size
  clear hP1 hR1 hG1 hb1 ho2 hz1
  go_upto_region 12 with (fail)
  generalize w1.setCell ⟨G, 4, none⟩ (.int .i64 i) = w2 at *
  clear q0 q1
  go_wp2_with fail
  (refine (rtext_any (w.heap.size + 1) s4 x s5 b4 b5 224 H5.out (by omega) (by omega) _ hP).mono ?_)
  rintro e w1 ⟨rfl, hP1, ho1⟩
  have hR1 := hR.only ho1 (by omega)
  have hG1 := hG.only ho1 (by omega)
  have hb1 := hb.trans (below_only (B := w.heap.size) ho1 (by omega) hb.size)
  have hz1 := Nat.le_trans hz ho1.size
  clear hP hR hG hb ho1 hz
  have q0 : w1.cell? ⟨G, 6, none⟩ = some (.string ⟨#[]⟩) := hG1.cell 6
  have q1 := hG1.frozen 6
  have ho2 := only_set w1 G 6 (.string x)
  have hG : Bk (w1.setCell ⟨G, 6, none⟩ (.string x)) G 24 #[.int .i64 2, .int .i64 fr, .int .i64 0, .int .i64 id, .int .i64 i, .int .i64 0, .string x, .slice none 0 0] := hG1.set_ 6 _
  have hP := hP1.only ho2 (by omega)
  have hR := hR1.only ho2 (by omega)
  have hb := hb1.trans (below_only (B := w.heap.size) ho2 (by omega) hb1.size)
  have hz := Nat.le_trans hz1 ho2.size
  clear hP1 hR1 hG1 hb1 ho2 hz1
  go_upto_region 13 with (fail)
  generalize w1.setCell ⟨G, 6, none⟩ (.string x) = w2 at *
  clear q0 q1
  go_wp2_with fail
  (refine (rnum_any (w.heap.size + 1) s5 s6 b5 b6 1 m H6.out (by omega) (by omega) (by omega) _ hP).mono ?_)
  rintro e w1 ⟨rfl, hP1, ho1⟩
  have hR1 := hR.only ho1 (by omega)
  have hG1 := hG.only ho1 (by omega)
  have hb1 := hb.trans (below_only (B := w.heap.size) ho1 (by omega) hb.size)
  have hz1 := Nat.le_trans hz ho1.size
  clear hP hR hG hb ho1 hz
  obtain ⟨M, hM⟩ : ∃ M : Nat, m = (M : Int) := ⟨m.toNat, by omega⟩
  subst hM
  rw [Int.toNat_natCast] at H7
  have hM : M < 256 := by omega
  clear zm
  go_wp2_with fail
  have hst : LpW w G w1.heap.size fr id i x [] s6 b6 w1 := ⟨_, hR1, hP1, hG1, World.ownsRow_nil _ _ _ _, hb1, Nat.le_refl _⟩
  have hGb : G < w1.heap.size := hG1.lt
  have hz6 : s6.size ≤ 1000 := by omega
  have hzx : x.size ≤ s.size := by omega
  clear hR1 hP1 hG1 hb1 hz1 z1 z2 z3 z4 z5 z6
  generalize w1.heap.size = base at *
  go_loopw [8] (fun q wr => ∃ (d : Nat) (L : List ByteArray) (sj : ByteArray) (bj : Bool), d + L.length ≤ M ∧ q = .int .i64 d ∧ sj.size ≤ 1000 ∧ Hid (rdP M s6 b6 = (L ++ (rdP d sj bj).1, (rdP d sj bj).2)) ∧ LpW w G base fr id i x L sj bj wr) (fun q _ => (intOf q).toNat)
  case atStart => exact ⟨M, [], s6, b6, by simp, rfl, hz6, Lib.hid (by simp), hst⟩
  case round =>
    obtain ⟨d, L, sj, bj, hdL, rfl, hsj, hrd, v, hR, hP, hG, hown, hb, hbase⟩ := hrel
    clear hst
    by_cases hd : d = 0 ∨ bj = true
    · have hr0 := hrd.out
      rw [rdP_end hd, List.append_nil, H7.out] at hr0
      simp only [Prod.mk.injEq] at hr0
      obtain ⟨rfl, rfl, rfl⟩ := hr0
      clear hrd
      obtain ⟨_, A, pc, rfl, hn1, hn2, hrP⟩ := Sl.own hown
      have hpc : pc ≤ 9223372036854775807 := hn2
      have hof : Off w.heap.size A (P.map Value.string) := Off.fresh (B := base) (fun ad hA => (hown.lt _ (by rw [hA]; rfl)).1) (by omega)
      clear hown
      obtain ⟨w2, rfl⟩ : ∃ w2 : World, w2 = wr := ⟨_, rfl⟩
      have hPl : P.length ≤ 256 := by omega
      have HRP := Lib.hid hrP
      by_cases hd0 : d = 0
      · subst hd0
        clear hd
        have p0 : w2.cell? ⟨w.heap.size + 1, 0, none⟩ = some (.string s7) := hP.cell 0
        have p1 : w2.cell? ⟨w.heap.size + 1, 1, none⟩ = some (.bool b7) := hP.cell 1
        have HCMP := Lib.hid (show ∀ (k' fr' seq' id' i' n' : Int) (x' : ByteArray) (P' : List ByteArray), pktOk k' fr' seq' id' i' n' x' P' = true → pktS k' fr' seq' id' i' n' x' P' = s → Left s7 b7 ∧ pktOk 2 fr 0 id i 0 x P = true from (fun k' fr' seq' id' i' n' x' P' ho hS => by obtain ⟨e1, e2, e3, e4⟩ := head_b Hc.out (HNC.out ▸ H1.out) H2.out ho hS; subst e1; subst e2; subst e3; obtain ⟨l, q1, q2, q3, q4, q5, q6⟩ := k2_b (P := P) (s7 := s7) (b7 := b7) ho H3.out H4.out H5.out H6.out (by rw [Int.toNat_natCast]; exact H7.out) e4; subst q1; subst q2; subst q3; subst q4; subst q5; subst q6; exact ⟨l, ho⟩))
        have HSND := Lib.hid (show Left s7 b7 → pktS 2 fr 0 id i 0 x P = s from (fun hl => by obtain ⟨e1, e2⟩ := k2_a (P := P) (s7 := s7) H3.out H4.out H5.out H6.out (by rw [Int.toNat_natCast]; exact H7.out) hl; subst e1; exact head_a Hc.out (HNC.out ▸ H1.out) H2.out e2))
        cases b7 with
        | true =>
          have HNO := Lib.hid (show ∀ (k' fr' seq' id' i' n' : Int) (x' : ByteArray) (P' : List ByteArray), pktOk k' fr' seq' id' i' n' x' P' = true → ¬ pktS k' fr' seq' id' i' n' x' P' = s from fun _ _ _ _ _ _ _ _ ho hS => by have h := (HCMP.out _ _ _ _ _ _ _ _ ho hS).1.1; cases h)
          have r0 := hR.cell 0
          have r1 := hR.cell 1
          have r2 := hR.cell 2
          have r3 := hR.cell 3
          have r4 := hR.cell 4
          have r5 := hR.cell 5
          have r6 := hR.cell 6
          have r7 := hR.cell 7
          simp only [List.getElem?_toArray, List.getElem?_cons_succ, List.getElem?_cons_zero] at r0 r1 r2 r3 r4 r5 r6 r7
          have f0 := hR.frozen 0
          have f1 := hR.frozen 1
          have f2 := hR.frozen 2
          have f3 := hR.frozen 3
          have f4 := hR.frozen 4
          have f5 := hR.frozen 5
          have f6 := hR.frozen 6
          have f7 := hR.frozen 7
          go_wp2_with fail
          exact bodyPost_ret (v := .tuple #[.agg #[.int .i64 0, .int .i64 0, .int .i64 0, .int .i64 0, .int .i64 0, .int .i64 0, .string ⟨#[]⟩, .slice none 0 0], .int .i64 2]) (by simp [results, Try.results12, go_sem, r0, r1, r2, r3, r4, r5, r6, r7]) rfl (.inr ⟨HNO.out, rfl, set8_below hb (Nat.le_refl _) _ _ _ _ _ _ _ _⟩)
        | false =>
          by_cases h0 : s7.size = 0
          · have t0 : (s7.toList == ([] : List UInt8)) = true := by rw [empty_of h0]; rfl
            have t1 : (s7.toList != ([] : List UInt8)) = false := by rw [empty_of h0]; rfl
            have HL := Lib.hid (show Left s7 false from ⟨rfl, h0⟩)
            clear h0
            cases hok : pktOk 2 fr 0 id i 0 x P with
            | false =>
              have Hok := Lib.hid hok
              clear hok
              have HNO := Lib.hid (show ∀ (k' fr' seq' id' i' n' : Int) (x' : ByteArray) (P' : List ByteArray), pktOk k' fr' seq' id' i' n' x' P' = true → ¬ pktS k' fr' seq' id' i' n' x' P' = s from fun _ _ _ _ _ _ _ _ ho hS => by have h := (HCMP.out _ _ _ _ _ _ _ _ ho hS).2; rw [Hok.out] at h; cases h)
              have g0 := hG.cell 0
              have g1 := hG.cell 1
              have g2 := hG.cell 2
              have g3 := hG.cell 3
              have g4 := hG.cell 4
              have g5 := hG.cell 5
              have g6 := hG.cell 6
              have g7 := hG.cell 7
              simp only [List.getElem?_toArray, List.getElem?_cons_succ, List.getElem?_cons_zero] at g0 g1 g2 g3 g4 g5 g6 g7
              go_wp2_with fail
              (with_reducible refine (pcheck_any 2 fr 0 id i 0 x A P.length pc P false _ Hok.out rfl HRP.out (by omega) (by omega)).mono ?_)
              rintro e w3 ⟨rfl, hb3⟩
              have hR3 := hR.below' hb3
              have hb4 := below_then hb hb3 hb.size
              clear hR hb hb3 hP hG g0 g1 g2 g3 g4 g5 g6 g7 p0 p1
              have hR := hR3
              have hb := hb4
              clear hR3 hb4
              have hk1 : okE false = 1 := rfl
              rw [hk1]
              clear hk1
              have r0 := hR.cell 0
              have r1 := hR.cell 1
              have r2 := hR.cell 2
              have r3 := hR.cell 3
              have r4 := hR.cell 4
              have r5 := hR.cell 5
              have r6 := hR.cell 6
              have r7 := hR.cell 7
              simp only [List.getElem?_toArray, List.getElem?_cons_succ, List.getElem?_cons_zero] at r0 r1 r2 r3 r4 r5 r6 r7
              have f0 := hR.frozen 0
              have f1 := hR.frozen 1
              have f2 := hR.frozen 2
              have f3 := hR.frozen 3
              have f4 := hR.frozen 4
              have f5 := hR.frozen 5
              have f6 := hR.frozen 6
              have f7 := hR.frozen 7
              go_wp2_with fail
              exact bodyPost_ret (v := .tuple #[.agg #[.int .i64 0, .int .i64 0, .int .i64 0, .int .i64 0, .int .i64 0, .int .i64 0, .string ⟨#[]⟩, .slice none 0 0], .int .i64 2]) (by simp [results, Try.results12, go_sem, r0, r1, r2, r3, r4, r5, r6, r7]) rfl (.inr ⟨HNO.out, rfl, set8_below hb (Nat.le_refl _) _ _ _ _ _ _ _ _⟩)
            | true =>
              have Hok := Lib.hid hok
              clear hok
              have g0 := hG.cell 0
              have g1 := hG.cell 1
              have g2 := hG.cell 2
              have g3 := hG.cell 3
              have g4 := hG.cell 4
              have g5 := hG.cell 5
              have g6 := hG.cell 6
              have g7 := hG.cell 7
              simp only [List.getElem?_toArray, List.getElem?_cons_succ, List.getElem?_cons_zero] at g0 g1 g2 g3 g4 g5 g6 g7
              go_wp2_with fail
              (with_reducible refine (pcheck_any 2 fr 0 id i 0 x A P.length pc P true _ Hok.out rfl HRP.out (by omega) (by omega)).mono ?_)
              rintro e w3 ⟨rfl, hb3⟩
              have hR3 := hR.below' hb3
              have hG3 := hG.below' hb3
              have hr3 : Rd w3 A (P.map Value.string) := (HRP.out).below hb3
              have hb4 := below_then hb hb3 hb.size
              clear hR hb hb3 hP hG g0 g1 g2 g3 g4 g5 g6 g7 p0 p1
              have hR := hR3
              have hb := hb4
              have hG := hG3
              clear hR3 hb4 hG3
              have hk1 : okE true = 0 := rfl
              rw [hk1]
              clear hk1
              have g0 := hG.cell 0
              have g1 := hG.cell 1
              have g2 := hG.cell 2
              have g3 := hG.cell 3
              have g4 := hG.cell 4
              have g5 := hG.cell 5
              have g6 := hG.cell 6
              have g7 := hG.cell 7
              simp only [List.getElem?_toArray, List.getElem?_cons_succ, List.getElem?_cons_zero] at g0 g1 g2 g3 g4 g5 g6 g7
              have r0 := hR.cell 0
              have r1 := hR.cell 1
              have r2 := hR.cell 2
              have r3 := hR.cell 3
              have r4 := hR.cell 4
              have r5 := hR.cell 5
              have r6 := hR.cell 6
              have r7 := hR.cell 7
              simp only [List.getElem?_toArray, List.getElem?_cons_succ, List.getElem?_cons_zero] at r0 r1 r2 r3 r4 r5 r6 r7
              have f0 := hR.frozen 0
              have f1 := hR.frozen 1
              have f2 := hR.frozen 2
              have f3 := hR.frozen 3
              have f4 := hR.frozen 4
              have f5 := hR.frozen 5
              have f6 := hR.frozen 6
              have f7 := hR.frozen 7
              have Hb := Lib.hid hb
              clear hb
              go_wp2_with fail
              refine bodyPost_ret (v := .tuple #[.agg #[.int .i64 2, .int .i64 fr, .int .i64 0, .int .i64 id, .int .i64 i, .int .i64 0, .string x, .slice A P.length pc], .int .i64 0]) (by simp [results, Try.results12, go_sem, r0, r1, r2, r3, r4, r5, r6, r7]) rfl (.inl ⟨2, fr, 0, id, i, 0, x, A, P.length, pc, P, Hok.out, HSND.out HL.out, by omega, rfl, by omega, by omega, ?_, rfl, set8_below Hb.out (Nat.le_refl _) _ _ _ _ _ _ _ _⟩)
              exact hr3.only (set8_only _ _ _ _ _ _ _ _ _ _) hof
          · have t0 : (s7.toList == ([] : List UInt8)) = false := by rw [beq_eq_false_iff_ne]; intro e; exact h0 (by rw [← size_toList, e]; rfl)
            have t1 : (s7.toList != ([] : List UInt8)) = true := by simp [bne, t0]
            have HNO := Lib.hid (show ∀ (k' fr' seq' id' i' n' : Int) (x' : ByteArray) (P' : List ByteArray), pktOk k' fr' seq' id' i' n' x' P' = true → ¬ pktS k' fr' seq' id' i' n' x' P' = s from fun _ _ _ _ _ _ _ _ ho hS => h0 (HCMP.out _ _ _ _ _ _ _ _ ho hS).1.2)
            clear h0
            have r0 := hR.cell 0
            have r1 := hR.cell 1
            have r2 := hR.cell 2
            have r3 := hR.cell 3
            have r4 := hR.cell 4
            have r5 := hR.cell 5
            have r6 := hR.cell 6
            have r7 := hR.cell 7
            simp only [List.getElem?_toArray, List.getElem?_cons_succ, List.getElem?_cons_zero] at r0 r1 r2 r3 r4 r5 r6 r7
            have f0 := hR.frozen 0
            have f1 := hR.frozen 1
            have f2 := hR.frozen 2
            have f3 := hR.frozen 3
            have f4 := hR.frozen 4
            have f5 := hR.frozen 5
            have f6 := hR.frozen 6
            have f7 := hR.frozen 7
            go_wp2_with fail
            exact bodyPost_ret (v := .tuple #[.agg #[.int .i64 0, .int .i64 0, .int .i64 0, .int .i64 0, .int .i64 0, .int .i64 0, .string ⟨#[]⟩, .slice none 0 0], .int .i64 2]) (by simp [results, Try.results12, go_sem, r0, r1, r2, r3, r4, r5, r6, r7]) rfl (.inr ⟨HNO.out, rfl, set8_below hb (Nat.le_refl _) _ _ _ _ _ _ _ _⟩)
      · obtain rfl : b7 = true := hd.resolve_left hd0
        obtain ⟨d, rfl⟩ : ∃ d2, d = d2 + 1 := ⟨d - 1, by omega⟩
        clear hd hd0
        have p0 : w2.cell? ⟨w.heap.size + 1, 0, none⟩ = some (.string s7) := hP.cell 0
        have p1 : w2.cell? ⟨w.heap.size + 1, 1, none⟩ = some (.bool true) := hP.cell 1
        have HCMP := Lib.hid (show ∀ (k' fr' seq' id' i' n' : Int) (x' : ByteArray) (P' : List ByteArray), pktOk k' fr' seq' id' i' n' x' P' = true → pktS k' fr' seq' id' i' n' x' P' = s → Left s7 true ∧ pktOk 2 fr 0 id i 0 x P = true from (fun k' fr' seq' id' i' n' x' P' ho hS => by obtain ⟨e1, e2, e3, e4⟩ := head_b Hc.out (HNC.out ▸ H1.out) H2.out ho hS; subst e1; subst e2; subst e3; obtain ⟨l, q1, q2, q3, q4, q5, q6⟩ := k2_b (P := P) (s7 := s7) (b7 := true) ho H3.out H4.out H5.out H6.out (by rw [Int.toNat_natCast]; exact H7.out) e4; subst q1; subst q2; subst q3; subst q4; subst q5; subst q6; exact ⟨l, ho⟩))
        have HSND := Lib.hid (show Left s7 true → pktS 2 fr 0 id i 0 x P = s from (fun hl => by obtain ⟨e1, e2⟩ := k2_a (P := P) (s7 := s7) H3.out H4.out H5.out H6.out (by rw [Int.toNat_natCast]; exact H7.out) hl; subst e1; exact head_a Hc.out (HNC.out ▸ H1.out) H2.out e2))
        have HNO := Lib.hid (show ∀ (k' fr' seq' id' i' n' : Int) (x' : ByteArray) (P' : List ByteArray), pktOk k' fr' seq' id' i' n' x' P' = true → ¬ pktS k' fr' seq' id' i' n' x' P' = s from fun _ _ _ _ _ _ _ _ ho hS => by have h := (HCMP.out _ _ _ _ _ _ _ _ ho hS).1.1; cases h)
        have r0 := hR.cell 0
        have r1 := hR.cell 1
        have r2 := hR.cell 2
        have r3 := hR.cell 3
        have r4 := hR.cell 4
        have r5 := hR.cell 5
        have r6 := hR.cell 6
        have r7 := hR.cell 7
        simp only [List.getElem?_toArray, List.getElem?_cons_succ, List.getElem?_cons_zero] at r0 r1 r2 r3 r4 r5 r6 r7
        have f0 := hR.frozen 0
        have f1 := hR.frozen 1
        have f2 := hR.frozen 2
        have f3 := hR.frozen 3
        have f4 := hR.frozen 4
        have f5 := hR.frozen 5
        have f6 := hR.frozen 6
        have f7 := hR.frozen 7
        go_wp2_with fail
        exact bodyPost_ret (v := .tuple #[.agg #[.int .i64 0, .int .i64 0, .int .i64 0, .int .i64 0, .int .i64 0, .int .i64 0, .string ⟨#[]⟩, .slice none 0 0], .int .i64 2]) (by simp [results, Try.results12, go_sem, r0, r1, r2, r3, r4, r5, r6, r7]) rfl (.inr ⟨HNO.out, rfl, set8_below hb (Nat.le_refl _) _ _ _ _ _ _ _ _⟩)
    · have hd1 : ¬ d = 0 := fun h => hd (.inl h)
      have hd2 : bj = false := by cases bj with | true => exact absurd (.inr rfl) hd | false => rfl
      subst hd2
      obtain ⟨d, rfl⟩ : ∃ d2, d = d2 + 1 := ⟨d - 1, by omega⟩
      clear hd hd1
      obtain ⟨t2, r2, b8, hq⟩ : ∃ t r b, rdT sj false 32 = (t, r, b) := ⟨_, _, _, rfl⟩
      have zq := rdT_size hq
      have Hnext := Lib.hid (rdP_next hrd.out hq)
      have Hq := Lib.hid hq
      clear hq hrd
      have p0 : wr.cell? ⟨w.heap.size + 1, 0, none⟩ = some (.string sj) := hP.cell 0
      have p1 : wr.cell? ⟨w.heap.size + 1, 1, none⟩ = some (.bool false) := hP.cell 1
      have g7 : wr.cell? ⟨G, 7, none⟩ = some v := hG.cell 7
      have hno : v.ownBlock = none ∨ v.ownBlock ≠ some (w.heap.size + 1) := .inr (fun e => by have := (hown.lt _ e).1; omega)
      have hPd : Bk wr.drew (w.heap.size + 1) 58 #[.string sj, .bool false] := hP.drew
      have hRd := hR.drew
      have hGd := hG.drew
      have hbd := hb.drew
      have hownD : wr.drew.ownsRow base 9 1 v L.length (L.map Value.string) := hown
      have hbased : base ≤ wr.drew.heap.size := hbase
      have g7d : wr.drew.cell? ⟨G, 7, none⟩ = some v := hG.cell 7
      go_upto_region 16 with (fail)
      go_region_law (first
        | (refine step_append_new rfl (.tmp 73) (.tmp 76) 22 rfl base 9 1 16 el_str v L.length (L.map Value.string) (hown1.alloc _) (by simp [Act.eval, Act.put]) #[.string t2] _ (by simp [Act.eval, Act.put]; rfl) (by intro j u hu; rw [add_mk, World.cell?_alloc_mark]; simpa using hu) rfl (by intro u hu; simp at hu; subst hu; rfl) (by unfold maxLen; omega) (by omega) (by simp; omega) ?_; intro v2 w4 hown2 hb4; obtain ⟨_, A2, c2, rfl, _⟩ := Sl.own hown2; have hG4 := (hG3.alloc (.cells #[.string t2] 9)).below hb4 (by omega); have g9 := hG4.cell 7; have f9 := hG4.frozen 7)
        | (go_simp; go_at_call 25; refine (rtext_any (w.heap.size + 1) sj t2 r2 false b8 32 Hq.out (by omega) (by omega) _ hPd).mono ?_; rintro e w3 ⟨rfl, hP3, ho3⟩; have hR3 := hRd.only ho3 (by omega); have hG3 := hGd.only ho3 (by omega); have hb3 := hbd.trans (below_only (B := w.heap.size) ho3 (by omega) hbd.size); have hown1 := hownD.kept ho3 hno; have hbs3 := Nat.le_trans hbased ho3.size; have g8 := hG3.cell 7; have g8a := (hG3.alloc (.cells #[.string t2] 9)).cell 7))
      all_goals
        have ho5 := only_set w4 G 7 (.slice A2 (L.length + 1) c2)
        have hG5 : Bk (w4.setCell ⟨G, 7, none⟩ (.slice A2 (L.length + 1) c2)) G 24 #[.int .i64 2, .int .i64 fr, .int .i64 0, .int .i64 id, .int .i64 i, .int .i64 0, .string x, .slice A2 (L.length + 1) c2] := hG4.set_ 7 _
        have hP5 := ((hP3.alloc (.cells #[.string t2] 9)).below hb4 (by omega)).only ho5 (by omega)
        have hR5 := ((hR3.alloc (.cells #[.string t2] 9)).below hb4 (by omega)).only ho5 (by omega)
        have hown5 : (w4.setCell ⟨G, 7, none⟩ (.slice A2 (L.length + 1) c2)).ownsRow base 9 1 (.slice A2 (L.length + 1) c2) (L ++ [t2]).length ((L ++ [t2]).map Value.string) := by
          rw [List.length_append, List.map_append]
          exact World.ownsRow.kept hown2 ho5 (.inr (fun e => by have := (hown2.lt _ e).1; omega))
        have hb5 := ((hb3.alloc hb3.size (.cells #[.string t2] 9)).trans (hb4.mono (by omega))).setCell (p := ⟨G, 7, none⟩) (by show w.heap.size ≤ G; omega) (.slice A2 (L.length + 1) c2)
        have hbase5 : base ≤ (w4.setCell ⟨G, 7, none⟩ (.slice A2 (L.length + 1) c2)).heap.size := by have h1 := hb4.size; have h2 := ho5.size; simp at h1; omega
        have hst5 : LpW w G base fr id i x (L ++ [t2]) r2 b8 (w4.setCell ⟨G, 7, none⟩ (.slice A2 (L.length + 1) c2)) := ⟨_, hR5, hP5, hG5, hown5, hb5, hbase5⟩
        clear ho5 hG5 hP5 hR5 hown5 hb5 hbase5 hP3 hR3 hG3 hb3 hown1 hbs3 g8 g8a hb4 hown2 hG4 g9 f9 hPd hRd hGd hbd hownD hbased g7d hno p0 p1 g7 ho3 hR hG hown hb hbase hP
        generalize w4.setCell ⟨G, 7, none⟩ (.slice A2 (L.length + 1) c2) = w5 at *
        go_wp2_with fail
        go_roundw
        case rel => exact ⟨d, L ++ [t2], r2, b8, by rw [List.length_append, List.length_singleton]; omega, by go_num, by omega, Hnext, hst5⟩
        case measure => simp [intOf]
end Go.Proofs.Ytfkbcmmhpopdnaa
