/-
  Packets, the reference's Take: body of data.
-/
import Derived.Test.YtfkbcmmhpopdnaaPktV
import Derived.Test.YtfkbcmmhpopdnaaPktT2
import Derived.WalkLawsBesides
import Derived.IntWalk
namespace Go.Proofs.Ytfkbcmmhpopdnaa
open Go.RowKit

/-- A text's pieces of 32 bytes, from its 231st byte on. -/
def chk (s : ByteArray) (j : Nat) : List ByteArray := (List.range j).map fun q => s.extract (231 + 32 * q) (min (231 + 32 * q + 32) s.size)
theorem chk_len (s : ByteArray) (j : Nat) : (chk s j).length = j := by simp [chk]
theorem chk_succ (s : ByteArray) (j : Nat) : chk s (j + 1) = chk s j ++ [s.extract (231 + 32 * j) (min (231 + 32 * j + 32) s.size)] := by simp [chk, List.range_succ]
/-- How many. -/
def chkN (s : ByteArray) : Nat := (s.size - 231 + 31) / 32
def BdW (w : World) (fr id i : Int) (x : ByteArray) (L : List ByteArray) (wr : World) : Prop :=
  ∃ v, Bk wr w.heap.size 24 #[.int .i64 0, .int .i64 0, .int .i64 0, .int .i64 0, .int .i64 0, .int .i64 0, .string ⟨#[]⟩, .slice none 0 0] ∧ Bk wr (w.heap.size + 1) 24 #[.int .i64 2, .int .i64 fr, .int .i64 0, .int .i64 id, .int .i64 i, .int .i64 0, .string x, v] ∧
    wr.ownsRow (w.heap.size + 2) 9 1 v L.length (L.map Value.string) ∧ Below w.heap.size w wr ∧ w.heap.size + 2 ≤ wr.heap.size

set_option maxRecDepth 20000 in
set_option maxHeartbeats 4000000 in
theorem body_2 (fr : Int) (s : ByteArray) (hs : s.size ≤ 1000) (hl : 231 ≤ s.size) (w : World) : Calls Try.prog 26 #[.int .i64 2, .int .i64 fr, .string s] w (BodyEnd 2 fr 0 (numI (s.extract 0 4)) (numI (s.extract 4 6)) 0 (s.extract 6 230) (chk s (chkN s)) w) := by
  obtain ⟨id, hid⟩ : ∃ x, numI (s.extract 0 4) = x := ⟨_, rfl⟩
  obtain ⟨i, hi⟩ : ∃ x, numI (s.extract 4 6) = x := ⟨_, rfl⟩
  obtain ⟨x, hx⟩ : ∃ x, s.extract 6 230 = x := ⟨_, rfl⟩
  rw [hid, hi, hx]
  have Hi := Lib.hid hi
  have Hid_ := Lib.hid hid
  clear hid hi
  go_enter Try.func26, Try.ntmps26
  go_wp2_with fail
  refine (numR_any _ (ext_le _ _ _ (by omega)) _).mono ?_
  rintro e w1 ⟨rfl, rfl⟩
  rw [Hid_.out]
  go_wp2_with fail
  refine (numR_any _ (ext_le _ _ _ (by omega)) _).mono ?_
  rintro e w1 ⟨rfl, rfl⟩
  rw [Hi.out]
  go_wp2_with fail
  have hst : BdW w fr id i x [] ((w.alloc (.cells #[.int .i64 0, .int .i64 0, .int .i64 0, .int .i64 0, .int .i64 0, .int .i64 0, .string ⟨#[]⟩, .slice none 0 0] 24)).alloc (.cells #[.int .i64 2, .int .i64 fr, .int .i64 0, .int .i64 id, .int .i64 i, .int .i64 0, .string x, .slice none 0 0] 24)) := by
    refine ⟨_, (Bk.new _ _ _).alloc _, ?_, World.ownsRow_nil _ _ _ _, ((Below.refl _ _).alloc (Nat.le_refl _) _).alloc (by simp) _, by simp⟩
    have h := Bk.new (w.alloc (.cells #[.int .i64 0, .int .i64 0, .int .i64 0, .int .i64 0, .int .i64 0, .int .i64 0, .string ⟨#[]⟩, .slice none 0 0] 24)) 24 #[.int .i64 2, .int .i64 fr, .int .i64 0, .int .i64 id, .int .i64 i, .int .i64 0, .string x, .slice none 0 0]
    rw [World.size_alloc] at h
    exact h
  generalize (w.alloc (.cells #[.int .i64 0, .int .i64 0, .int .i64 0, .int .i64 0, .int .i64 0, .int .i64 0, .string ⟨#[]⟩, .slice none 0 0] 24)).alloc (.cells #[.int .i64 2, .int .i64 fr, .int .i64 0, .int .i64 id, .int .i64 i, .int .i64 0, .string x, .slice none 0 0] 24) = w1 at *
  have Hx := Lib.hid hx
  clear hx
  go_loopw [8] (fun q wr => ∃ (a j : Nat), q = .int .i64 a ∧ Hid (a = 231 + 32 * j) ∧ a < s.size + 32 ∧ BdW w fr id i x (chk s j) wr) (fun q _ => s.size + 32 - (intOf q).toNat)
  case atStart => exact ⟨231, 0, rfl, Lib.hid rfl, by omega, hst⟩
  case round =>
    obtain ⟨a, j, rfl, ha, hal, v, hR, hG, hown, hb, hbase⟩ := hrel
    clear hst
    by_cases hlt : a < s.size
    · have hj : j ≤ 1000 := by have := ha.out; omega
      obtain ⟨E, hE, hE1, hE2, hE3⟩ : ∃ E : Nat, E = min (a + 32) s.size ∧ E ≤ s.size ∧ a ≤ E ∧ E ≤ a + 32 := ⟨_, rfl, by omega, by omega, by omega⟩
      have HE := Lib.hid hE
      clear hE
      have g7 : wr.cell? ⟨w.heap.size + 1, 7, none⟩ = some v := hG.cell 7
      have g7d : wr.drew.cell? ⟨w.heap.size + 1, 7, none⟩ = some v := hG.cell 7
      have hRd := hR.drew
      have hGd := hG.drew
      have hbd := hb.drew
      have hownD : wr.drew.ownsRow (w.heap.size + 2) 9 1 v (chk s j).length ((chk s j).map Value.string) := hown
      have hbased : w.heap.size + 2 ≤ wr.drew.heap.size := hbase
      have hcl := chk_len s j
      obtain ⟨t2, ht2⟩ : ∃ t, s.extract a E = t := ⟨_, rfl⟩
      have HS := Lib.hid (show chk s (j + 1) = chk s j ++ [t2] by rw [chk_succ, ← ha.out, ← HE.out, ht2])
      have c1 : (chk s j).length + 1 ≤ maxLen := by unfold maxLen; omega
      have c2' : ((chk s j).length + 1) * 16 ≤ 140737488355328 := by omega
      have c3 : w.heap.size + 2 ≤ (wr.alloc (.cells #[.string t2] 9)).drew.heap.size := by
        have : (wr.alloc (.cells #[.string t2] 9)).drew.heap.size = wr.heap.size + 1 := by simp
        omega
      have hownA : (wr.alloc (.cells #[.string t2] 9)).drew.ownsRow (w.heap.size + 2) 9 1 v (chk s j).length ((chk s j).map Value.string) := hown.alloc _
      have hGA : Bk (wr.alloc (.cells #[.string t2] 9)).drew (w.heap.size + 1) 24 #[.int .i64 2, .int .i64 fr, .int .i64 0, .int .i64 id, .int .i64 i, .int .i64 0, .string x, v] := (hG.alloc _).drew
      have hcA : ∀ (j : Nat) (u : Value), (#[Value.string t2] : Array Value).toList[j]? = some u → (wr.alloc (.cells #[.string t2] 9)).drew.cell? ((⟨wr.heap.size, 0, none⟩ : Addr).add j) = some u := by
        intro j u hu
        rw [add_mk, World.cell?_drew, World.cell?_alloc_mark]
        simpa using hu
      have HcA := Lib.hid hcA
      clear hcA
      have gA : (wr.alloc (.cells #[.string t2] 9)).drew.cell? ⟨w.heap.size + 1, 7, none⟩ = some v := hGA.cell 7
      have c4 : w.heap.size + 1 < w.heap.size + 2 := by omega
      have m0 : (0 : Int) ≤ (E : Int) := by omega
      have m1 : (E : Int) ≤ (s.size : Int) := by omega
      have m2 : (a : Int) ≤ (E : Int) := by omega
      have mx : min ((a : Int) + 32) (s.size : Int) = (E : Int) := by have := HE.out; omega
      have mw : IntKind.i64.wrap ((a : Int) + 32) = (a : Int) + 32 := by rw [IntKind.wrap_i64]; omega
      clear hcl
      go_upto_region 12 with (fail)
      go_region_law (refine step_append_new rfl (.tmp 42) (.tmp 51) 22 rfl (w.heap.size + 2) 9 1 16 el_str v (chk s j).length ((chk s j).map Value.string) hownA (by simp [Act.eval, Act.put]) #[.string t2] ⟨wr.heap.size, 0, none⟩ (by simp [Act.eval, Act.put]) HcA.out rfl (by intro u hu; simp at hu; subst hu; rfl) c1 c2' c3 ?_; intro v2 w4 hown2 hb4; obtain ⟨_, A2, c2, rfl, _⟩ := Sl.own hown2; have hG4 := hGA.below hb4 c4; have g9 := hG4.cell 7; have f9 := hG4.frozen 7)
      all_goals
        clear mw mx m0 m1 m2
        have ho5 := only_set w4 (w.heap.size + 1) 7 (.slice A2 ((chk s j).length + 1) c2)
        have hG5 : Bk (w4.setCell ⟨w.heap.size + 1, 7, none⟩ (.slice A2 ((chk s j).length + 1) c2)) (w.heap.size + 1) 24 #[.int .i64 2, .int .i64 fr, .int .i64 0, .int .i64 id, .int .i64 i, .int .i64 0, .string x, .slice A2 ((chk s j).length + 1) c2] := hG4.set_ 7 _
        have hR5 := (Bk.below ((hR.alloc (.cells #[.string t2] 9)).drew) hb4 (by omega)).only ho5 (by omega)
        have hown5 : (w4.setCell ⟨w.heap.size + 1, 7, none⟩ (.slice A2 ((chk s j).length + 1) c2)).ownsRow (w.heap.size + 2) 9 1 (.slice A2 ((chk s j).length + 1) c2) (chk s (j + 1)).length ((chk s (j + 1)).map Value.string) := by
          rw [HS.out, List.length_append, List.map_append]
          exact World.ownsRow.kept hown2 ho5 (.inr (fun e => by have := (hown2.lt _ e).1; omega))
        have hb5 := (((hb.alloc hb.size (.cells #[.string t2] 9)).drew).trans (hb4.mono (by omega))).setCell (p := ⟨w.heap.size + 1, 7, none⟩) (by show w.heap.size ≤ w.heap.size + 1; omega) (.slice A2 ((chk s j).length + 1) c2)
        have hbase5 : w.heap.size + 2 ≤ (w4.setCell ⟨w.heap.size + 1, 7, none⟩ (.slice A2 ((chk s j).length + 1) c2)).heap.size := Nat.le_trans c3 (Nat.le_trans hb4.size ho5.size)
        have hst5 : BdW w fr id i x (chk s (j + 1)) (w4.setCell ⟨w.heap.size + 1, 7, none⟩ (.slice A2 ((chk s j).length + 1) c2)) := ⟨_, hR5, hG5, hown5, hb5, hbase5⟩
        clear ho5 hG5 hR5 hown5 hb5 hbase5 hb4 hown2 hG4 g9 f9 hRd hGd hbd hownD hbased g7d g7 hR hG hown hb hbase hownA hGA HcA gA c1 c2' c3
        generalize w4.setCell ⟨w.heap.size + 1, 7, none⟩ (.slice A2 ((chk s j).length + 1) c2) = w5 at *
        go_wp2_with fail
        go_roundw
        case rel => exact ⟨a + 32, j + 1, by go_num, Lib.hid (by have := ha.out; omega), by omega, hst5⟩
        case measure => simp [intOf]; omega
    · have hj : j = chkN s := by have := ha.out; unfold chkN; omega
      subst hj
      obtain ⟨_, A, pc, rfl, hn1, hn2, hrP⟩ := Sl.own hown
      have hpc : pc ≤ 9223372036854775807 := hn2
      have hof : Off w.heap.size A ((chk s (chkN s)).map Value.string) := Off.fresh (B := w.heap.size + 2) (fun ad hA => (hown.lt _ (by rw [hA]; rfl)).1) (by omega)
      have hfr : ∀ ad, A = some ad → w.heap.size ≤ ad.block := fun ad hA => by have := (hown.lt _ (by rw [hA]; rfl)).1; omega
      clear hown
      have g0 := hG.cell 0
      have g1 := hG.cell 1
      have g2 := hG.cell 2
      have g3 := hG.cell 3
      have g4 := hG.cell 4
      have g5 := hG.cell 5
      have g6 := hG.cell 6
      have g7 := hG.cell 7
      have r0 := hR.cell 0
      have r1 := hR.cell 1
      have r2 := hR.cell 2
      have r3 := hR.cell 3
      have r4 := hR.cell 4
      have r5 := hR.cell 5
      have r6 := hR.cell 6
      have r7 := hR.cell 7
      simp only [List.getElem?_toArray, List.getElem?_cons_succ, List.getElem?_cons_zero] at g0 g1 g2 g3 g4 g5 g6 g7 r0 r1 r2 r3 r4 r5 r6 r7
      have f0 := hR.frozen 0
      have f1 := hR.frozen 1
      have f2 := hR.frozen 2
      have f3 := hR.frozen 3
      have f4 := hR.frozen 4
      have f5 := hR.frozen 5
      have f6 := hR.frozen 6
      have f7 := hR.frozen 7
      have Hr := Lib.hid hrP
      have Hn := Lib.hid hn1
      have Hb := Lib.hid hb
      clear hrP hn1 hb
      generalize chk s (chkN s) = L at *
      go_wp2_with fail
      exact bodyPost_ret (v := .agg #[.int .i64 2, .int .i64 fr, .int .i64 0, .int .i64 id, .int .i64 i, .int .i64 0, .string x, .slice A L.length pc]) (by simp [results, Try.results26, go_sem, r0, r1, r2, r3, r4, r5, r6, r7]) rfl ⟨A, L.length, pc, rfl, rfl, Hn.out, hpc, Hr.out.only (set8_only _ _ _ _ _ _ _ _ _ _) hof, hfr, set8_below Hb.out (Nat.le_refl _) _ _ _ _ _ _ _ _⟩
end Go.Proofs.Ytfkbcmmhpopdnaa
