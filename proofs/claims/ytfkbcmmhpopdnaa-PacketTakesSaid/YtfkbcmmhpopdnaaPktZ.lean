/-
  Packets: the walk of the reference's Take.
-/
import Derived.Test.YtfkbcmmhpopdnaaPktY
import Derived.Test.YtfkbcmmhpopdnaaTake
import Derived.Deep.RegionWith
namespace Go.Proofs.Ytfkbcmmhpopdnaa
open Go.RowKit

/-- The packet's block behind the region that makes it. -/
def TkCut (w : World) (R : Nat) (kind fr seq id i n : Int) (text : ByteArray) (P : List ByteArray) (v : Value) (wx : World) : Prop :=
  ∃ (g : Nat) (A : Option Addr) (pn pc : Nat), v = .pointer (some ⟨g, 0, none⟩) ∧ R < g ∧ Bk wx g 24 #[.int .i64 kind, .int .i64 fr, .int .i64 seq, .int .i64 id, .int .i64 i, .int .i64 n, .string text, .slice A pn pc] ∧
    P.length = pn ∧ pn ≤ pc ∧ pc ≤ 9223372036854775807 ∧ Rd wx A (P.map Value.string) ∧ Off R A (P.map Value.string) ∧ Bk wx R 24 #[.int .i64 0, .int .i64 0, .int .i64 0, .int .i64 0, .int .i64 0, .int .i64 0, .string ⟨#[]⟩, .slice none 0 0] ∧ Below w.heap.size w wx

theorem zero8 {w0 w3 : World} (hb : Below (w0.alloc (.cells #[.int .i64 0, .int .i64 0, .int .i64 0, .int .i64 0, .int .i64 0, .int .i64 0, .string ⟨#[]⟩, .slice none 0 0] 24)).drew.heap.size (w0.alloc (.cells #[.int .i64 0, .int .i64 0, .int .i64 0, .int .i64 0, .int .i64 0, .int .i64 0, .string ⟨#[]⟩, .slice none 0 0] 24)).drew w3) :
    Bk w3 w0.heap.size 24 #[.int .i64 0, .int .i64 0, .int .i64 0, .int .i64 0, .int .i64 0, .int .i64 0, .string ⟨#[]⟩, .slice none 0 0] := by
  have h : Bk (w0.alloc (.cells #[.int .i64 0, .int .i64 0, .int .i64 0, .int .i64 0, .int .i64 0, .int .i64 0, .string ⟨#[]⟩, .slice none 0 0] 24)).drew w0.heap.size 24 #[.int .i64 0, .int .i64 0, .int .i64 0, .int .i64 0, .int .i64 0, .int .i64 0, .string ⟨#[]⟩, .slice none 0 0] := Bk.drew (Bk.new w0 _ _)
  exact h.below' hb
theorem Bk.cells8 {w : World} {g : Nat} {t : TypeId} {a0 a1 a2 a3 a4 a5 a6 a7 : Value} (h : Bk w g t #[a0, a1, a2, a3, a4, a5, a6, a7]) :
    w.cell? ⟨g, 0, none⟩ = some a0 ∧ w.cell? ⟨g, 1, none⟩ = some a1 ∧ w.cell? ⟨g, 2, none⟩ = some a2 ∧ w.cell? ⟨g, 3, none⟩ = some a3 ∧ w.cell? ⟨g, 4, none⟩ = some a4 ∧ w.cell? ⟨g, 5, none⟩ = some a5 ∧ w.cell? ⟨g, 6, none⟩ = some a6 ∧ w.cell? ⟨g, 7, none⟩ = some a7 :=
  ⟨h.cell 0, h.cell 1, h.cell 2, h.cell 3, h.cell 4, h.cell 5, h.cell 6, h.cell 7⟩
theorem Bk.free8 {w : World} {g : Nat} {t : TypeId} {cs : Array Value} (h : Bk w g t cs) :
    w.frozen? ⟨g, 0, none⟩ = false ∧ w.frozen? ⟨g, 1, none⟩ = false ∧ w.frozen? ⟨g, 2, none⟩ = false ∧ w.frozen? ⟨g, 3, none⟩ = false ∧ w.frozen? ⟨g, 4, none⟩ = false ∧ w.frozen? ⟨g, 5, none⟩ = false ∧ w.frozen? ⟨g, 6, none⟩ = false ∧ w.frozen? ⟨g, 7, none⟩ = false :=
  ⟨h.frozen 0, h.frozen 1, h.frozen 2, h.frozen 3, h.frozen 4, h.frozen 5, h.frozen 6, h.frozen 7⟩
theorem set8_bk {w : World} {g : Nat} {t : TypeId} {a0 a1 a2 a3 a4 a5 a6 a7 : Value} (h : Bk w g t #[a0, a1, a2, a3, a4, a5, a6, a7]) (v0 v1 v2 v3 v4 v5 v6 v7 : Value) :
    Bk ((((((((w.setCell ⟨g, 0, none⟩ v0).setCell ⟨g, 1, none⟩ v1).setCell ⟨g, 2, none⟩ v2).setCell ⟨g, 3, none⟩ v3).setCell ⟨g, 4, none⟩ v4).setCell ⟨g, 5, none⟩ v5).setCell ⟨g, 6, none⟩ v6).setCell ⟨g, 7, none⟩ v7) g t #[v0, v1, v2, v3, v4, v5, v6, v7] := by
  have h0 := (((((((h.set_ 0 v0).set_ 1 v1).set_ 2 v2).set_ 3 v3).set_ 4 v4).set_ 5 v5).set_ 6 v6).set_ 7 v7
  simp only [List.setIfInBounds_toArray, List.set_cons_zero, List.set_cons_succ] at h0
  exact h0

set_option maxRecDepth 20000 in
set_option maxHeartbeats 8000000 in
theorem ptakeR_any (s : ByteArray) (w : World) (hs : s.size ≤ 1000) : Calls Try.prog 13 #[.string s] w (TakeEnd s w) := by
  by_cases h9 : s.size < 9
  · have HNO := Lib.hid (show ∀ (kind fr seq id i n : Int) (text : ByteArray) (P : List ByteArray), pktOk kind fr seq id i n text P = true → ¬ pktS kind fr seq id i n text P = s from fun kind fr seq id i n text P _ h => by
      have := congrArg List.length (pktS_list kind fr seq id i n text P)
      rw [h, size_toList] at this
      simp only [List.length_append, be_length, List.length_cons, List.length_nil] at this
      omega)
    go_enter Try.func13, Try.ntmps13
    go_wp2
    exact bodyPost_ret (v := .tuple #[.agg #[.int .i64 0, .int .i64 0, .int .i64 0, .int .i64 0, .int .i64 0, .int .i64 0, .string ⟨#[]⟩, .slice none 0 0], .int .i64 2]) (by simp [results, Try.results13, go_sem]) rfl (.inr ⟨HNO.out, rfl, (Below.refl _ _).alloc (Nat.le_refl _) _⟩)
  · obtain ⟨K, hK⟩ : ∃ K : Int, ((s[4]'(by omega)).toNat : Int) = K := ⟨_, rfl⟩
    obtain ⟨f5, hf5⟩ : ∃ c, s.extract 5 9 = c := ⟨_, rfl⟩
    obtain ⟨s2, hs2⟩ : ∃ c, s.extract 9 s.size = c := ⟨_, rfl⟩
    obtain ⟨seq, id, i, n, text, P, hbd⟩ : ∃ a b c d e f, bdF K s2 = (a, b, c, d, e, f) := ⟨_, _, _, _, _, _, rfl⟩
    obtain ⟨F, hF⟩ : ∃ F, numI f5 = F := ⟨_, rfl⟩
    have z2 : s2.size ≤ s.size := by rw [← hs2, suf_size _ _ (by omega)]; omega
    have zt := bdF_text _ _ _ _ _ _ _ _ hbd
    have z5 : f5.size ≤ 4 := by rw [← hf5]; exact ext_le _ _ _ (by omega)
    have HCMP := Lib.hid (show ∀ (k' fr' seq' id' i' n' : Int) (x' : ByteArray) (P' : List ByteArray), pktOk k' fr' seq' id' i' n' x' P' = true → pktS k' fr' seq' id' i' n' x' P' = s → k' = K ∧ fr' = F ∧ seq' = seq ∧ id' = id ∧ i' = i ∧ n' = n ∧ x' = text ∧ P' = P from fun k' fr' seq' id' i' n' x' P' ho hS => by
      have hl : s.toList = [83, 76, 80, 49] ++ (be k' 1 ++ (be fr' 4 ++ pktT k' seq' id' i' n' x' P')) := by rw [← hS, pktS_list]
      have hk := ok_kind ho
      have hf := ok_fr ho
      have e1 : K = k' := by
        rw [← hK, getElem_toList]
        have : s.toList[4]? = some (byteOf k') := by rw [hl]; rfl
        have h2 := (List.getElem?_eq_some_iff.1 this).2
        rw [h2, byteOf_toNat, Int.emod_eq_of_lt (by omega) (by omega)]
      have e2 : F = fr' := by
        rw [← hF, ← hf5]
        exact numI_at (a := [83, 76, 80, 49] ++ be k' 1) (k := 4) (x := fr') (l := pktT k' seq' id' i' n' x' P') 5 9 (by rw [hl]; simp) (by simp [be_length]) (by simp [be_length]) (by omega) (by omega)
      have e3 : s2.toList = pktT k' seq' id' i' n' x' P' := by
        rw [← hs2, toList_suf, hl]
        rw [show [83, 76, 80, 49] ++ (be k' 1 ++ (be fr' 4 ++ pktT k' seq' id' i' n' x' P')) = ([83, 76, 80, 49] ++ (be k' 1 ++ be fr' 4)) ++ pktT k' seq' id' i' n' x' P' by simp]
        exact List.drop_left' (by simp [be_length])
      subst e1
      have e4 := (bdF_is ho e3).symm.trans hbd
      simp only [Prod.mk.injEq] at e4
      obtain ⟨a, b, c, d, e, f⟩ := e4
      exact ⟨rfl, e2.symm, a, b, c, d, e, f⟩)
    have Hbd := Lib.hid hbd
    have HF := Lib.hid hF
    have HTS := Lib.hid (Nat.le_trans zt z2)
    clear hbd hF
    have h9' : ¬ ((s.size : Nat) : Int) < 9 := by omega
    have hKw : IntKind.i64.wrap K = K := by
      have := UInt8.toNat_lt (s[4]'(by omega))
      simp [IntKind.wrap, IntKind.bits, IntKind.signed]
      omega
    have i4 : (4 : Int) < (s.size : Int) := by omega
    have i9 : (9 : Int) ≤ (s.size : Int) := by omega
    have hR : Bk (w.alloc (.cells #[.int .i64 0, .int .i64 0, .int .i64 0, .int .i64 0, .int .i64 0, .int .i64 0, .string ⟨#[]⟩, .slice none 0 0] 24)) w.heap.size 24 #[.int .i64 0, .int .i64 0, .int .i64 0, .int .i64 0, .int .i64 0, .int .i64 0, .string ⟨#[]⟩, .slice none 0 0] := Bk.new _ _ _
    have hb : Below w.heap.size w (w.alloc (.cells #[.int .i64 0, .int .i64 0, .int .i64 0, .int .i64 0, .int .i64 0, .int .i64 0, .string ⟨#[]⟩, .slice none 0 0] 24)) := (Below.refl _ _).alloc (Nat.le_refl _) _
    have hz0 : w.heap.size < (w.alloc (.cells #[.int .i64 0, .int .i64 0, .int .i64 0, .int .i64 0, .int .i64 0, .int .i64 0, .string ⟨#[]⟩, .slice none 0 0] 24)).heap.size := by simp
    go_enter Try.func13, Try.ntmps13
    go_upto_region 3 with (fail)
    generalize w.alloc (.cells #[.int .i64 0, .int .i64 0, .int .i64 0, .int .i64 0, .int .i64 0, .int .i64 0, .string ⟨#[]⟩, .slice none 0 0] 24) = w0 at *
    go_cut [4] from 11 to 19 (fun v wx => TkCut w w.heap.size K F seq id i n text P v wx)
    case first =>
      have hcw : Below w0.heap.size w0 w0.drew := (Below.refl _ _).drew
      have hRd : Bk w0.drew w.heap.size 24 #[.int .i64 0, .int .i64 0, .int .i64 0, .int .i64 0, .int .i64 0, .int .i64 0, .string ⟨#[]⟩, .slice none 0 0] := hR.drew
      refine wp_region_held_drew (S := (fun w' => Below w0.heap.size w0 w')) (by kernel_rfl) hcw (fun _ => ?_)
      refine anyH_take (i := 0) (v := ?_) rfl (by kernel_rfl) (by kernel_rfl) (by kernel_rfl) (fun _ _ _ h => h) (by rfl) ?_ (by assumption) ?_
      rotate_left
      · intro w' hSw; (try dsimp only at hSw); go_simp; (try with_reducible rfl)
      try simp only [Act.put, List.setIfInBounds_toArray, List.set_cons_zero, List.set_cons_succ]
      refine anyH_take (i := 1) (v := ?_) rfl (by kernel_rfl) (by kernel_rfl) (by kernel_rfl) (fun _ _ _ h => h) (by rfl) ?_ (by assumption) ?_
      rotate_left
      · intro w' hSw; (try dsimp only at hSw); go_simp; (try with_reducible rfl)
      try simp only [Act.put, List.setIfInBounds_toArray, List.set_cons_zero, List.set_cons_succ]
      refine anyH_take (i := 2) (v := ?_) rfl (by kernel_rfl) (by kernel_rfl) (by kernel_rfl) (fun _ _ _ h => h) (by rfl) ?_ (by assumption) ?_
      rotate_left
      · intro w' hSw; (try dsimp only at hSw); go_simp; (try with_reducible rfl)
      try simp only [Act.put, List.setIfInBounds_toArray, List.set_cons_zero, List.set_cons_succ]
      refine anyH_take (i := 3) (v := ?_) rfl (by kernel_rfl) (by kernel_rfl) (by kernel_rfl) (fun _ _ _ h => h) (by rfl) ?_ (by assumption) ?_
      rotate_left
      · intro w' hSw; (try dsimp only at hSw); go_simp; (try with_reducible rfl)
      try simp only [Act.put, List.setIfInBounds_toArray, List.set_cons_zero, List.set_cons_succ]
      refine anyH_take (i := 4) (v := ?_) rfl (by kernel_rfl) (by kernel_rfl) (by kernel_rfl) (fun _ _ _ h => h) (by rfl) ?_ (by assumption) ?_
      rotate_left
      · intro w' hSw; (try dsimp only at hSw); go_simp; (try with_reducible rfl)
      try simp only [Act.put, List.setIfInBounds_toArray, List.set_cons_zero, List.set_cons_succ]
      refine anyH_take (i := 6) (v := ?_) rfl (by kernel_rfl) (by kernel_rfl) (by kernel_rfl) (fun _ _ _ h => h) (by rfl) ?_ (by assumption) ?_
      rotate_left
      · intro w' hSw; (try dsimp only at hSw); go_simp; (try with_reducible rfl)
      try simp only [Act.put, List.setIfInBounds_toArray, List.set_cons_zero, List.set_cons_succ]
      refine anyH_take (i := 7) (v := ?_) rfl (by kernel_rfl) (by kernel_rfl) (by kernel_rfl) (fun _ _ _ h => h) (by rfl) ?_ (by assumption) ?_
      rotate_left
      · intro w' hSw; (try dsimp only at hSw); go_simp; (try with_reducible rfl)
      try simp only [Act.put, List.setIfInBounds_toArray, List.set_cons_zero, List.set_cons_succ]
      refine anyH_two (i := 5) (j := 9) rfl rfl (by kernel_rfl) (by rfl) (by rfl) (fun Kc hK => ?_) (fun Kc hK => ?_)
      · go_simp
        go_at_call 27
        (with_reducible refine (numR_any f5 z5 _).mono ?_)
        rintro e wn ⟨rfl, rfl⟩
        rw [HF.out]
        have hX : Below w0.heap.size w0 w0.drew := by assumption
        refine hK.out _ _ hX (fun _ => ?_)
        clear hK Kc
        try simp only [Act.put, List.setIfInBounds_toArray, List.set_cons_zero, List.set_cons_succ]
        refine anyH_two (i := 8) (j := 9) rfl rfl (by kernel_rfl) (by rfl) (by rfl) (fun Kc hK => ?_) (fun Kc hK => ?_)
        · go_simp
          go_at_call 26
          (with_reducible refine (body_any K F s2 (by omega) seq id i n text P Hbd.out _).mono ?_)
          rintro e w3 ⟨A, pn, pc, rfl, hP, hpc, hcm, hrd, hfr, hb3⟩
          have HPl := Lib.hid hP
          clear hP
          have hoR : Off w.heap.size A (P.map Value.string) := Off.fresh (B := w0.heap.size) (fun ad hA => by have := hfr ad hA; simp at this; omega) hz0
          have hX : Below w0.heap.size w0 w3 := below_then (w1 := w0.drew) (by assumption) hb3 (Below.size (w := w0) (B := w0.heap.size) (by assumption))
          have hR3 : Bk w3 w.heap.size 24 #[.int .i64 0, .int .i64 0, .int .i64 0, .int .i64 0, .int .i64 0, .int .i64 0, .string ⟨#[]⟩, .slice none 0 0] := Bk.below' (w := w0.drew) (by assumption) hb3
          refine hK.out _ _ hX (fun _ => ?_)
          clear hK Kc
          try simp only [Act.put, List.setIfInBounds_toArray, List.set_cons_zero, List.set_cons_succ]
          have hXb := hX
          refine anyH_call (i := 9) rfl (by kernel_rfl) (by rfl) (fun Kc hK => ?_)
          go_simp
          have hX : Below w0.heap.size w0 (w3.alloc (.cells #[.int .i64 0, .int .i64 0, .int .i64 0, .int .i64 0, .int .i64 0, .int .i64 0, .string ⟨#[]⟩, .slice none 0 0] 24)) := Below.alloc (by assumption) (Below.size (w := w0) (B := w0.heap.size) (by assumption)) _
          have hZ : Bk (w3.alloc (.cells #[.int .i64 0, .int .i64 0, .int .i64 0, .int .i64 0, .int .i64 0, .int .i64 0, .string ⟨#[]⟩, .slice none 0 0] 24)) w3.heap.size 24 #[.int .i64 0, .int .i64 0, .int .i64 0, .int .i64 0, .int .i64 0, .int .i64 0, .string ⟨#[]⟩, .slice none 0 0] := Bk.new _ _ _
          have hRZ : Bk (w3.alloc (.cells #[.int .i64 0, .int .i64 0, .int .i64 0, .int .i64 0, .int .i64 0, .int .i64 0, .string ⟨#[]⟩, .slice none 0 0] 24)) w.heap.size 24 #[.int .i64 0, .int .i64 0, .int .i64 0, .int .i64 0, .int .i64 0, .int .i64 0, .string ⟨#[]⟩, .slice none 0 0] := Bk.alloc (by assumption) _
          have hrdZ := hrd.below ((Below.refl w3.heap.size w3).alloc (Nat.le_refl _) (.cells #[.int .i64 0, .int .i64 0, .int .i64 0, .int .i64 0, .int .i64 0, .int .i64 0, .string ⟨#[]⟩, .slice none 0 0] 24))
          refine hK.out _ _ hX (fun _ => ?_)
          clear hK Kc
          try simp only [Act.put, List.setIfInBounds_toArray, List.set_cons_zero, List.set_cons_succ]
          refine anyH_call (i := 10) rfl (by kernel_rfl) (by rfl) (fun Kc hK => ?_)
          have hX2 := Below.alloc (o := (.cells #[.int .i64 K, .int .i64 F, .int .i64 seq, .int .i64 id, .int .i64 i, .int .i64 n, .string text, .slice A pn pc] 24)) (w := w3) (hXb : Below w0.heap.size w0 w3) hXb.size
          have hG : Bk (w3.alloc (.cells #[.int .i64 K, .int .i64 F, .int .i64 seq, .int .i64 id, .int .i64 i, .int .i64 n, .string text, .slice A pn pc] 24)) w3.heap.size 24 #[.int .i64 K, .int .i64 F, .int .i64 seq, .int .i64 id, .int .i64 i, .int .i64 n, .string text, .slice A pn pc] := Bk.new _ _ _
          have hR4 := hR3.alloc (.cells #[.int .i64 K, .int .i64 F, .int .i64 seq, .int .i64 id, .int .i64 i, .int .i64 n, .string text, .slice A pn pc] 24)
          have hrd4 := hrd.below ((Below.refl w3.heap.size w3).alloc (Nat.le_refl _) (.cells #[.int .i64 K, .int .i64 F, .int .i64 seq, .int .i64 id, .int .i64 i, .int .i64 n, .string text, .slice A pn pc] 24))
          have hzz : w.heap.size < w3.heap.size := Nat.lt_of_lt_of_le hz0 hXb.size
          go_simp
          refine hK.out _ _ hX2 (fun _ => ?_)
          clear hK Kc
          try simp only [Act.put, List.setIfInBounds_toArray, List.set_cons_zero, List.set_cons_succ]
          refine wpAnyH_done (by kernel_rfl) ?_ _
          go_wp2_with fail
          go_meet
          case rel => exact ⟨w3.heap.size, A, pn, pc, rfl, hzz, hG, HPl.out, hpc, hcm, hrd4, hoR, hR4, hb.trans (hX2.mono hb.size)⟩
        · go_simp
          have hX : Below w0.heap.size w0 (w0.drew.alloc (.cells #[.int .i64 0, .int .i64 0, .int .i64 0, .int .i64 0, .int .i64 0, .int .i64 0, .string ⟨#[]⟩, .slice none 0 0] 24)) := Below.alloc (by assumption) (Below.size (w := w0) (B := w0.heap.size) (by assumption)) _
          have hZ : Bk (w0.drew.alloc (.cells #[.int .i64 0, .int .i64 0, .int .i64 0, .int .i64 0, .int .i64 0, .int .i64 0, .string ⟨#[]⟩, .slice none 0 0] 24)) w0.heap.size 24 #[.int .i64 0, .int .i64 0, .int .i64 0, .int .i64 0, .int .i64 0, .int .i64 0, .string ⟨#[]⟩, .slice none 0 0] := Bk.new _ _ _
          have hRZ : Bk (w0.drew.alloc (.cells #[.int .i64 0, .int .i64 0, .int .i64 0, .int .i64 0, .int .i64 0, .int .i64 0, .string ⟨#[]⟩, .slice none 0 0] 24)) w.heap.size 24 #[.int .i64 0, .int .i64 0, .int .i64 0, .int .i64 0, .int .i64 0, .int .i64 0, .string ⟨#[]⟩, .slice none 0 0] := Bk.alloc (by assumption) _
          refine hK.out _ _ hX (fun _ => ?_)
          clear hK Kc
          try simp only [Act.put, List.setIfInBounds_toArray, List.set_cons_zero, List.set_cons_succ]
          refine anyH_call (i := 8) rfl (by kernel_rfl) (by rfl) (fun Kc hK => ?_)
          go_simp
          go_at_call 26
          (with_reducible refine (body_any K F s2 (by omega) seq id i n text P Hbd.out _).mono ?_)
          rintro e w3 ⟨A, pn, pc, rfl, hP, hpc, hcm, hrd, hfr, hb3⟩
          have HPl := Lib.hid hP
          clear hP
          have hoR : Off w.heap.size A (P.map Value.string) := Off.fresh (B := w0.heap.size) (fun ad hA => by have := hfr ad hA; simp at this; omega) hz0
          have hX : Below w0.heap.size w0 w3 := below_then (w1 := (w0.drew.alloc (.cells #[.int .i64 0, .int .i64 0, .int .i64 0, .int .i64 0, .int .i64 0, .int .i64 0, .string ⟨#[]⟩, .slice none 0 0] 24))) (by assumption) hb3 (Below.size (w := w0) (B := w0.heap.size) (by assumption))
          have hR3 : Bk w3 w.heap.size 24 #[.int .i64 0, .int .i64 0, .int .i64 0, .int .i64 0, .int .i64 0, .int .i64 0, .string ⟨#[]⟩, .slice none 0 0] := Bk.below' (w := (w0.drew.alloc (.cells #[.int .i64 0, .int .i64 0, .int .i64 0, .int .i64 0, .int .i64 0, .int .i64 0, .string ⟨#[]⟩, .slice none 0 0] 24))) (by assumption) hb3
          have hZ3 : Bk w3 w0.heap.size 24 #[.int .i64 0, .int .i64 0, .int .i64 0, .int .i64 0, .int .i64 0, .int .i64 0, .string ⟨#[]⟩, .slice none 0 0] := Bk.below' (w := (w0.drew.alloc (.cells #[.int .i64 0, .int .i64 0, .int .i64 0, .int .i64 0, .int .i64 0, .int .i64 0, .string ⟨#[]⟩, .slice none 0 0] 24))) hZ hb3
          refine hK.out _ _ hX (fun _ => ?_)
          clear hK Kc
          try simp only [Act.put, List.setIfInBounds_toArray, List.set_cons_zero, List.set_cons_succ]
          have hoff : Off w0.heap.size A (P.map Value.string) := Off.fresh (B := w0.heap.size + 1) (fun ad hA => by have := hfr ad hA; simp at this; omega) (by omega)
          refine anyH_call (i := 10) rfl (by kernel_rfl) (by rfl) (fun Kc hK => ?_)
          obtain ⟨c0, c1, c2, c3, c4, c5, c6, c7⟩ := hZ3.cells8
          obtain ⟨d0, d1, d2, d3, d4, d5, d6, d7⟩ := hZ3.free8
          have hX2 := set8_below hX (Nat.le_refl _) (.int .i64 K) (.int .i64 F) (.int .i64 seq) (.int .i64 id) (.int .i64 i) (.int .i64 n) (.string text) (.slice A pn pc)
          have hG := set8_bk hZ3 (.int .i64 K) (.int .i64 F) (.int .i64 seq) (.int .i64 id) (.int .i64 i) (.int .i64 n) (.string text) (.slice A pn pc)
          have ho := set8_only w3 w0.heap.size (.int .i64 K) (.int .i64 F) (.int .i64 seq) (.int .i64 id) (.int .i64 i) (.int .i64 n) (.string text) (.slice A pn pc)
          have hR4 := hR3.only ho (by omega)
          have hrd4 := hrd.only ho hoff
          go_simp
          refine hK.out _ _ hX2 (fun _ => ?_)
          clear hK Kc c0 c1 c2 c3 c4 c5 c6 c7 d0 d1 d2 d3 d4 d5 d6 d7
          try simp only [Act.put, List.setIfInBounds_toArray, List.set_cons_zero, List.set_cons_succ]
          refine wpAnyH_done (by kernel_rfl) ?_ _
          go_wp2_with fail
          go_meet
          case rel => exact ⟨w0.heap.size, A, pn, pc, rfl, hz0, hG, HPl.out, hpc, hcm, hrd4, hoR, hR4, hb.trans (hX2.mono hb.size)⟩
      · go_simp
        have hX : Below w0.heap.size w0 (w0.drew.alloc (.cells #[.int .i64 0, .int .i64 0, .int .i64 0, .int .i64 0, .int .i64 0, .int .i64 0, .string ⟨#[]⟩, .slice none 0 0] 24)) := Below.alloc (by assumption) (Below.size (w := w0) (B := w0.heap.size) (by assumption)) _
        have hZ : Bk (w0.drew.alloc (.cells #[.int .i64 0, .int .i64 0, .int .i64 0, .int .i64 0, .int .i64 0, .int .i64 0, .string ⟨#[]⟩, .slice none 0 0] 24)) w0.heap.size 24 #[.int .i64 0, .int .i64 0, .int .i64 0, .int .i64 0, .int .i64 0, .int .i64 0, .string ⟨#[]⟩, .slice none 0 0] := Bk.new _ _ _
        have hRZ : Bk (w0.drew.alloc (.cells #[.int .i64 0, .int .i64 0, .int .i64 0, .int .i64 0, .int .i64 0, .int .i64 0, .string ⟨#[]⟩, .slice none 0 0] 24)) w.heap.size 24 #[.int .i64 0, .int .i64 0, .int .i64 0, .int .i64 0, .int .i64 0, .int .i64 0, .string ⟨#[]⟩, .slice none 0 0] := Bk.alloc (by assumption) _
        refine hK.out _ _ hX (fun _ => ?_)
        clear hK Kc
        try simp only [Act.put, List.setIfInBounds_toArray, List.set_cons_zero, List.set_cons_succ]
        refine anyH_call (i := 5) rfl (by kernel_rfl) (by rfl) (fun Kc hK => ?_)
        go_simp
        go_at_call 27
        (with_reducible refine (numR_any f5 z5 _).mono ?_)
        rintro e wn ⟨rfl, rfl⟩
        rw [HF.out]
        have hX : Below w0.heap.size w0 (w0.drew.alloc (.cells #[.int .i64 0, .int .i64 0, .int .i64 0, .int .i64 0, .int .i64 0, .int .i64 0, .string ⟨#[]⟩, .slice none 0 0] 24)) := by assumption
        refine hK.out _ _ hX (fun _ => ?_)
        clear hK Kc
        try simp only [Act.put, List.setIfInBounds_toArray, List.set_cons_zero, List.set_cons_succ]
        refine anyH_call (i := 8) rfl (by kernel_rfl) (by rfl) (fun Kc hK => ?_)
        go_simp
        go_at_call 26
        (with_reducible refine (body_any K F s2 (by omega) seq id i n text P Hbd.out _).mono ?_)
        rintro e w3 ⟨A, pn, pc, rfl, hP, hpc, hcm, hrd, hfr, hb3⟩
        have HPl := Lib.hid hP
        clear hP
        have hoR : Off w.heap.size A (P.map Value.string) := Off.fresh (B := w0.heap.size) (fun ad hA => by have := hfr ad hA; simp at this; omega) hz0
        have hX : Below w0.heap.size w0 w3 := below_then (w1 := (w0.drew.alloc (.cells #[.int .i64 0, .int .i64 0, .int .i64 0, .int .i64 0, .int .i64 0, .int .i64 0, .string ⟨#[]⟩, .slice none 0 0] 24))) (by assumption) hb3 (Below.size (w := w0) (B := w0.heap.size) (by assumption))
        have hR3 : Bk w3 w.heap.size 24 #[.int .i64 0, .int .i64 0, .int .i64 0, .int .i64 0, .int .i64 0, .int .i64 0, .string ⟨#[]⟩, .slice none 0 0] := Bk.below' (w := (w0.drew.alloc (.cells #[.int .i64 0, .int .i64 0, .int .i64 0, .int .i64 0, .int .i64 0, .int .i64 0, .string ⟨#[]⟩, .slice none 0 0] 24))) (by assumption) hb3
        have hZ3 : Bk w3 w0.heap.size 24 #[.int .i64 0, .int .i64 0, .int .i64 0, .int .i64 0, .int .i64 0, .int .i64 0, .string ⟨#[]⟩, .slice none 0 0] := Bk.below' (w := (w0.drew.alloc (.cells #[.int .i64 0, .int .i64 0, .int .i64 0, .int .i64 0, .int .i64 0, .int .i64 0, .string ⟨#[]⟩, .slice none 0 0] 24))) hZ hb3
        refine hK.out _ _ hX (fun _ => ?_)
        clear hK Kc
        try simp only [Act.put, List.setIfInBounds_toArray, List.set_cons_zero, List.set_cons_succ]
        have hoff : Off w0.heap.size A (P.map Value.string) := Off.fresh (B := w0.heap.size + 1) (fun ad hA => by have := hfr ad hA; simp at this; omega) (by omega)
        refine anyH_call (i := 10) rfl (by kernel_rfl) (by rfl) (fun Kc hK => ?_)
        obtain ⟨c0, c1, c2, c3, c4, c5, c6, c7⟩ := hZ3.cells8
        obtain ⟨d0, d1, d2, d3, d4, d5, d6, d7⟩ := hZ3.free8
        have hX2 := set8_below hX (Nat.le_refl _) (.int .i64 K) (.int .i64 F) (.int .i64 seq) (.int .i64 id) (.int .i64 i) (.int .i64 n) (.string text) (.slice A pn pc)
        have hG := set8_bk hZ3 (.int .i64 K) (.int .i64 F) (.int .i64 seq) (.int .i64 id) (.int .i64 i) (.int .i64 n) (.string text) (.slice A pn pc)
        have ho := set8_only w3 w0.heap.size (.int .i64 K) (.int .i64 F) (.int .i64 seq) (.int .i64 id) (.int .i64 i) (.int .i64 n) (.string text) (.slice A pn pc)
        have hR4 := hR3.only ho (by omega)
        have hrd4 := hrd.only ho hoff
        go_simp
        refine hK.out _ _ hX2 (fun _ => ?_)
        clear hK Kc c0 c1 c2 c3 c4 c5 c6 c7 d0 d1 d2 d3 d4 d5 d6 d7
        try simp only [Act.put, List.setIfInBounds_toArray, List.set_cons_zero, List.set_cons_succ]
        refine wpAnyH_done (by kernel_rfl) ?_ _
        go_wp2_with fail
        go_meet
        case rel => exact ⟨w0.heap.size, A, pn, pc, rfl, hz0, hG, HPl.out, hpc, hcm, hrd4, hoR, hR4, hb.trans (hX2.mono hb.size)⟩
    case rest =>
      obtain ⟨g, A, pn, pc, rfl, hgR, hG, hP, hpc, hcm, hrd, hoff, hR9, hbx⟩ := hcut
      clear hR hb hz0
      have hR := hR9
      have HP := Lib.hid hP
      have ht : text.size ≤ 1000 := by omega
      have hn : pn ≤ 9223372036854775807 := by omega
      clear hP hR9 i4 i9 z2 zt z5
      clear w0
      obtain ⟨g0, g1, g2, g3, g4, g5, g6, g7⟩ := hG.cells8
      rcases hok : pktOk K F seq id i n text P with _ | _
      · have Hok := Lib.hid hok
        clear hok
        go_wp2_with fail
        (with_reducible refine (pputR_bad K F seq id i n text A pn pc P _ Hok.out HP.out hrd (by omega) hn).mono ?_)
        rintro e w3 ⟨rfl, hb3⟩
        have hR3 := hR.below' hb3
        have hb4 := below_then hbx hb3 hbx.size
        clear g0 g1 g2 g3 g4 g5 g6 g7 hR hG hrd hoff hbx hb3
        obtain ⟨r0, r1, r2, r3, r4, r5, r6, r7⟩ := hR3.cells8
        obtain ⟨f0, f1, f2, f3, f4, f5, f6, f7⟩ := hR3.free8
        go_wp2_with fail
        exact bodyPost_ret (v := .tuple #[.agg #[.int .i64 0, .int .i64 0, .int .i64 0, .int .i64 0, .int .i64 0, .int .i64 0, .string ⟨#[]⟩, .slice none 0 0], .int .i64 2]) (by simp [results, Try.results13, go_sem, r0, r1, r2, r3, r4, r5, r6, r7]) rfl (.inr ⟨fun k' fr' sq' id' i' n' x' P' ho hS => by
          obtain ⟨rfl, rfl, rfl, rfl, rfl, rfl, rfl, rfl⟩ := HCMP.out k' fr' sq' id' i' n' x' P' ho hS
          exact absurd (Hok.out.symm.trans ho) (by decide), rfl, set8_below hb4 (Nat.le_refl _) _ _ _ _ _ _ _ _⟩)
      · have Hok := Lib.hid hok
        clear hok
        obtain ⟨t, htS⟩ : ∃ t, pktS K F seq id i n text P = t := ⟨_, rfl⟩
        have HtS := Lib.hid htS
        clear htS
        go_wp2_with fail
        (with_reducible refine (pputR_any K F seq id i n text A pn pc P _ Hok.out HP.out hpc hrd ht hn).mono ?_)
        rintro e w3 ⟨rfl, hb3⟩
        rw [HtS.out]
        have hR3 := hR.below' hb3
        have hG3 := hG.below' hb3
        have hrd3 := hrd.below hb3
        have hb4 := below_then hbx hb3 hbx.size
        clear g0 g1 g2 g3 g4 g5 g6 g7 hR hG hrd hbx hb3
        obtain ⟨r0, r1, r2, r3, r4, r5, r6, r7⟩ := hR3.cells8
        obtain ⟨f0, f1, f2, f3, f4, f5, f6, f7⟩ := hR3.free8
        obtain ⟨g0, g1, g2, g3, g4, g5, g6, g7⟩ := hG3.cells8
        have ho := set8_only w3 w.heap.size (.int .i64 K) (.int .i64 F) (.int .i64 seq) (.int .i64 id) (.int .i64 i) (.int .i64 n) (.string text) (.slice A pn pc)
        have hrd5 := hrd3.only ho hoff
        by_cases hts : t = s
        · subst hts
          clear ho hrd3
          go_wp2_with fail
          exact bodyPost_ret (v := .tuple #[.agg #[.int .i64 K, .int .i64 F, .int .i64 seq, .int .i64 id, .int .i64 i, .int .i64 n, .string text, .slice A pn pc], .int .i64 0]) (by simp [results, Try.results13, go_sem, r0, r1, r2, r3, r4, r5, r6, r7]) rfl (.inl ⟨K, F, seq, id, i, n, text, A, pn, pc, P, Hok.out, HtS.out, HTS.out, HP.out, hpc, hcm, hrd5, rfl, set8_below hb4 (Nat.le_refl _) _ _ _ _ _ _ _ _⟩)
        · have htn : (t.toList == s.toList) = false := beq_eq_false_iff_ne.2 (fun e => hts (str_eq e))
          have HN := Lib.hid hts
          clear hts ho hrd3 hrd5 hoff
          go_wp2_with fail
          exact bodyPost_ret (v := .tuple #[.agg #[.int .i64 0, .int .i64 0, .int .i64 0, .int .i64 0, .int .i64 0, .int .i64 0, .string ⟨#[]⟩, .slice none 0 0], .int .i64 2]) (by simp [results, Try.results13, go_sem, r0, r1, r2, r3, r4, r5, r6, r7]) rfl (.inr ⟨fun k' fr' sq' id' i' n' x' P' ho hS => by
            obtain ⟨rfl, rfl, rfl, rfl, rfl, rfl, rfl, rfl⟩ := HCMP.out k' fr' sq' id' i' n' x' P' ho hS
            exact HN.out (HtS.out.symm.trans hS), rfl, set8_below hb4 (Nat.le_refl _) _ _ _ _ _ _ _ _⟩)
end Go.Proofs.Ytfkbcmmhpopdnaa
