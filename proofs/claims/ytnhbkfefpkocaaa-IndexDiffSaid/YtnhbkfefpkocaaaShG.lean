/-
  sha: the sum of what was written.
-/
import Derived.Test.YtnhbkfefpkocaaaShF
namespace Go.Proofs.Ytnhbkfefpkocaaa
open Go.RowKit Go.Lib

def zerosW (n : Nat) : Nat := (119 - n % 64) % 64
/-- The length's eight bytes. -/
def lenW (n : Nat) : List UInt8 := bytes4 (n * 8 / 4294967296) ++ bytes4 (n * 8)
theorem lenW_len (n : Nat) : (lenW n).length = 8 := rfl
theorem padW_eq (n : Nat) : padW n = 128 :: (List.replicate (zerosW n) 0 ++ lenW n) := by simp [padW, zerosW, lenW]
theorem rep_snoc (k : Nat) : List.replicate (k + 1) (0 : UInt8) = List.replicate k 0 ++ [0] := by rw [List.replicate_succ']
theorem lenW_get (n i : Nat) (hn : n ≤ 1000000000) (hi : i < 8) : (((lenW n).getD i 0).toNat : Int) = ((n : Int) * 8 / 2 ^ (56 - 8 * i)) % 256 := by
  have h : i = 0 ∨ i = 1 ∨ i = 2 ∨ i = 3 ∨ i = 4 ∨ i = 5 ∨ i = 6 ∨ i = 7 := by omega
  rcases h with rfl | rfl | rfl | rfl | rfl | rfl | rfl | rfl <;> simp [lenW, bytes4, UInt8.toNat_ofNat'] <;> omega
theorem lenW_take (n i : Nat) (hi : i < 8) : (lenW n).take (i + 1) = (lenW n).take i ++ [(lenW n).getD i 0] := by
  rw [List.take_succ_eq_append_getElem (by rw [lenW_len]; exact hi), List.getD_eq_getElem?_getD, List.getElem?_eq_getElem (by rw [lenW_len]; exact hi)]
  rfl
theorem row8_words (a0 a1 a2 a3 a4 a5 a6 a7 b0 b1 b2 b3 b4 b5 b6 b7 : Nat) : (((((((((row8 [a0, a1, a2, a3, a4, a5, a6, a7]).setIfInBounds 0 (.int .u32 (b0 : Nat))).setIfInBounds 1 (.int .u32 (b1 : Nat))).setIfInBounds 2 (.int .u32 (b2 : Nat))).setIfInBounds 3 (.int .u32 (b3 : Nat))).setIfInBounds 4 (.int .u32 (b4 : Nat))).setIfInBounds 5 (.int .u32 (b5 : Nat))).setIfInBounds 6 (.int .u32 (b6 : Nat))).setIfInBounds 7 (.int .u32 (b7 : Nat))) = row8 [b0, b1, b2, b3, b4, b5, b6, b7] := by simp [row8]
theorem snocH {w : World} {v : Value} {n base : Nat} {e : TypeId} {l : List UInt8} (b : UInt8) (X : Int) (l' : List UInt8) (h : w.ownsRow base e 1 v n (byteVals l ++ (#[Value.int .u8 X] : Array Value).toList)) (hX : (b.toNat : Int) = X) (hl : l' = l ++ [b]) : w.ownsRow base e 1 v n (byteVals l') := by
  rw [hl, ← byteVals_snoc l b X hX]
  exact h
theorem wpList_append_rowN {P : Program} (w : World) {ops : Array Oper} {rest : List Oper} {o : Oper} {a : Act} {Q : Exit → Act → World → Prop} (hgd : o.guard = none) (s x : Operand) (t : TypeId)
    (ho : o.op = .call { callee := .builtin .append, args := #[s, x], argTypes := #[t, t] })
    (base : Nat) (e : TypeId) (size bytes : Nat) (hel : El P t e size bytes)
    (v : Value) (n : Nat) (xs : List Value) (hown : w.ownsRow base e size v n xs) (hs : a.eval s = v) (C : Array Value) (m : Nat)
    (hx : a.eval x = .slice (some ⟨w.heap.size, 0, none⟩) m m) (hC : C.size = m * size) (h1 : ∀ u ∈ C.toList, u.oneCell' = true)
    (h63 : n + m ≤ maxLen) (hbytes : (n + m) * bytes ≤ 140737488355328) (hbase : base ≤ w.heap.size)
    (h : ∀ v' w', w'.ownsRow base e size v' (n + m) (xs ++ C.toList) → Below base w w' → wpList P ops Q rest (a.put o.dst v') w') : wpList P ops Q (o :: rest) a (w.alloc (.cells C e)) :=
  wpList_append_src (w.alloc (.cells C e)) hgd s x t ho base e size bytes hel v n xs (hown.alloc _) hs _ m m C.toList (Rd.new w e C) (by simpa using hC) hx h1 h63 hbytes (by simp; omega) fun v' w' h2 h3 => h v' w' h2 (((Below.refl base w).alloc hbase _).trans h3)
theorem vals4 (x : Nat) : byteVals (bytes4 x) = [.int .u8 ((x : Int) / 16777216 % 256), .int .u8 ((x : Int) / 65536 % 256), .int .u8 ((x : Int) / 256 % 256), .int .u8 ((x : Int) % 256)] := by
  simp [byteVals, bytes4, UInt8.toNat_ofNat']
theorem flat_step (H : List Nat) (i : Nat) (h : i < H.length) : byteVals ((H.take (i + 1)).flatMap bytes4) = byteVals ((H.take i).flatMap bytes4) ++ byteVals (bytes4 (H.getD i 0)) := by
  rw [List.take_succ_eq_append_getElem h, List.getD_eq_getElem?_getD, List.getElem?_eq_getElem h]
  unfold byteVals
  rw [List.flatMap_append, List.map_append]
  simp only [List.flatMap_cons, List.flatMap_nil, List.append_nil, Option.getD_some]
def vlen : Value → Nat
  | .slice _ n _ => n
  | _ => 0

set_option maxRecDepth 20000 in
set_option maxHeartbeats 4000000 in
theorem hsum_any (a0 a1 a2 a3 a4 a5 a6 a7 : Nat) (rest : List UInt8) (N r g : Nat) (A : Option Addr) (c : Nat) (w : World) (hN : N ≤ 1000000000) (hrN : N % 64 = r) (hlr : rest.length = r) (hH : Wd8 [a0, a1, a2, a3, a4, a5, a6, a7]) (hB : Bk w g 127 (hrow [a0, a1, a2, a3, a4, a5, a6, a7] (.slice A r c) N)) (hr : Rd w A (byteVals rest)) :
    Calls Try.prog 66 #[.pointer (some ⟨g, 0, none⟩)] w fun e w' => e = .returned (.string (ofL ((blocksW ((r + (padW N).length) / 64) [a0, a1, a2, a3, a4, a5, a6, a7] (rest ++ padW N)).flatMap bytes4))) ∧ Below w.heap.size w w' := by
  have c8 := hB.cell_ 8 (.slice A r c) rfl
  have HLR := Lib.hid hlr
  have HRN := Lib.hid hrN
  have HB := Lib.hid hB
  have HR := Lib.hid hr
  have HH := Lib.hid hH
  have hz : zerosW N ≤ 63 := by unfold zerosW; omega
  obtain ⟨Z, hZ⟩ : ∃ Z, zerosW N = Z := ⟨_, rfl⟩
  have hZ2 : (119 - r) % 64 = Z := by rw [← hZ, ← hrN]; rfl
  rw [hZ] at hz
  have HZ := Lib.hid (And.intro hZ hZ2)
  have hr64 : r < 64 := by omega
  clear hlr hB hr hH hZ hrN hZ2
  go_enter Try.func66, Try.ntmps66
  go_wp2_with (at_builtin; go_must (first | (refine wpList_append_srcN rfl (.const (.slice none 0 0)) (.tmp 14) 80 rfl 5 el_byteH rfl A r c rest HR.out HLR.out rfl (by omega) ?_) | (refine wpList_append_new _ rfl (.tmp 16) (.tmp 17) 80 rfl w.heap.size 5 1 1 el_byteH _ _ _ hown5 rfl _ rfl rfl (by intro u hu; simp at hu; subst hu; rfl) (by unfold maxLen; omega) (by omega) hb5.size ?_)); first | (intro A5 c5 w5 hc5 hd5 hr5 hf5 hown5 hb5) | (intro v2 w2 hown2 hb2))
  have hb2' := hb5.trans hb2
  rw [show byteVals rest ++ (#[Value.int .u8 128] : Array Value).toList = byteVals (rest ++ [128]) from byteVals_snoc rest 128 128 rfl] at hown2
  have HG := Lib.hid (And.intro hown2 hb2')
  clear hb5 hb2 hown5 hown2 hr5 hf5 hc5 hd5 hb2' c8
  go_loopw [3] (fun vi wr => ∃ k : Nat, k ≤ Z ∧ Hid (wr.ownsRow w.heap.size 5 1 vi (r + 1 + k) (byteVals (rest ++ 128 :: List.replicate k 0))) ∧ Hid (Below w.heap.size w wr)) (fun vi _ => 200 - vlen vi)
  case atStart => exact ⟨0, by omega, Lib.hid (by rw [Nat.add_zero]; exact HG.out.1), Lib.hid HG.out.2⟩
  case round =>
    clear HG
    obtain ⟨k, hk, HO, HBL⟩ := hrel
    obtain ⟨bg, bcap, bcur, rfl, hbg, hbk, hnc, hcm, htk⟩ := own_block HO.out (by omega)
    have hsz := hbk.lt
    by_cases hkz : k < Z
    · have hq : ¬ ((r : Int) + 1 + (k : Int)) % 64 = 56 := by have := HZ.out.2; omega
      go_wp2_with (at_builtin; go_must (refine wpList_append_new _ rfl (.tmp 23) (.tmp 24) 80 rfl w.heap.size 5 1 1 el_byteH _ _ _ HO.out rfl _ rfl rfl (by intro u hu; simp at hu; subst hu; rfl) (by unfold maxLen; omega) (by omega) HBL.out.size ?_); intro v2 w2 hown2 hb2)
      have hown3 : w2.ownsRow w.heap.size 5 1 v2 (r + 1 + (k + 1)) (byteVals (rest ++ 128 :: List.replicate (k + 1) 0)) := by
        have e : rest ++ 128 :: List.replicate (k + 1) 0 = (rest ++ 128 :: List.replicate k 0) ++ [0] := by rw [rep_snoc]; simp
        rw [e, ← byteVals_snoc _ 0 0 rfl]
        exact hown2
      have hvl : vlen v2 = r + 1 + k + 1 := by
        rcases hown3.2 with ⟨_, h0⟩ | ⟨g', cap', cur', hv, _⟩
        · omega
        · rw [hv]; rfl
      go_round
      case rel => exact ⟨k + 1, by omega, Lib.hid hown3, Lib.hid (HBL.out.trans hb2)⟩
      case measure => rw [hvl]; show 200 - (r + 1 + k + 1) < 200 - (r + 1 + k); omega
    · obtain rfl : k = Z := by omega
      have hq : ((r : Int) + 1 + (k : Int)) % 64 = 56 := by have := HZ.out.2; omega
      have hBk := HB.out.below' HBL.out
      have c9 := hBk.cell_ 9 (.int .i64 N) rfl
      clear hBk
      go_wp2_with fail
      clear htk hbk hsz hbg hnc hcm
      obtain ⟨L1, hL1⟩ : ∃ L1, rest ++ 128 :: List.replicate k 0 = L1 := ⟨_, rfl⟩
      obtain ⟨m1, hm1⟩ : ∃ m1, r + 1 + k = m1 := ⟨_, rfl⟩
      have hm1b : m1 ≤ 200 := by omega
      have hm1e : L1.length = m1 := by rw [← hL1, ← hm1, List.length_append, HLR.out]; simp; omega
      rw [hL1, hm1] at HO
      have HL1 := Lib.hid (And.intro hL1 (And.intro hm1 hm1e))
      have HQ := Lib.hid (And.intro hq hm1b)
      have hB8 : IntKind.i64.wrap ((N : Int) * 8) = (N : Int) * 8 := by rw [IntKind.wrap_i64]; omega
      clear hL1 hm1 hm1e hq
      go_loopw [3, 26] (fun vb vi wr => ∃ i : Nat, vi = .int .i64 (i : Nat) ∧ i ≤ 8 ∧ Hid (wr.ownsRow w.heap.size 5 1 vb (m1 + i) (byteVals (L1 ++ (lenW N).take i))) ∧ Hid (Below w.heap.size w wr)) (fun _ vi _ => 8 - (intOf vi).toNat)
      case atStart => exact ⟨0, rfl, by omega, Lib.hid (by rw [List.take_zero, List.append_nil, HL1.out.2.1]; exact HO.out), HBL⟩
      case round =>
        clear HO HBL c9
        obtain ⟨i, rfl, hi, HO, HBL⟩ := hrel
        have c9 := (HB.out.below' HBL.out).cell_ 9 (.int .i64 N) rfl
        by_cases hlt : i < 8
        · have hl8 : (i : Int) < 8 := by omega
          obtain ⟨bi, hbi⟩ : ∃ bi, (lenW N).getD i 0 = bi := ⟨_, rfl⟩
          have hv := lenW_get N i hN hlt
          have ht := lenW_take N i hlt
          rw [hbi] at hv ht
          have HV := Lib.hid (And.intro hv ht)
          obtain ⟨j, hj⟩ : ∃ j, i + 1 = j := ⟨_, rfl⟩
          have HJ := Lib.hid hj
          clear hv ht hbi hj
          have h8 : i = 0 ∨ i = 1 ∨ i = 2 ∨ i = 3 ∨ i = 4 ∨ i = 5 ∨ i = 6 ∨ i = 7 := by omega
          rcases h8 with rfl | rfl | rfl | rfl | rfl | rfl | rfl | rfl
          all_goals
            clear hlt hl8
            go_wp2_with (at_builtin; go_must (refine wpList_append_new _ rfl (.tmp 29) (.tmp 40) 80 rfl w.heap.size 5 1 1 el_byteH _ _ _ HO.out rfl _ rfl rfl (by intro u hu; simp at hu; subst hu; rfl) (by unfold maxLen; omega) (by omega) HBL.out.size ?_); intro v2 w2 hown2 hb2)
            have hown3 := snocH bi _ _ hown2 (by have h := HV.out.1; simp only [Nat.reduceMul, Nat.reduceSub, Int.reducePow] at h; omega) (show L1 ++ (lenW N).take j = _ by rw [← HJ.out, HV.out.2, List.append_assoc])
            go_round
            case rel => exact ⟨j, by rw [← HJ.out]; first | rfl | go_num, by have := HJ.out; omega, Lib.hid (by rw [← HJ.out] at hown3 ⊢; exact hown3), Lib.hid (HBL.out.trans hb2)⟩
            case measure => simp [intOf]
        · obtain rfl : i = 8 := by omega
          have hB3 := HB.out.below' HBL.out
          have c0 := hB3.cell_ 0 (.int .u32 (a0 : Nat)) rfl
          have c1 := hB3.cell_ 1 (.int .u32 (a1 : Nat)) rfl
          have c2 := hB3.cell_ 2 (.int .u32 (a2 : Nat)) rfl
          have c3 := hB3.cell_ 3 (.int .u32 (a3 : Nat)) rfl
          have c4 := hB3.cell_ 4 (.int .u32 (a4 : Nat)) rfl
          have c5 := hB3.cell_ 5 (.int .u32 (a5 : Nat)) rfl
          have c6 := hB3.cell_ 6 (.int .u32 (a6 : Nat)) rfl
          have c7 := hB3.cell_ 7 (.int .u32 (a7 : Nat)) rfl
          obtain ⟨bg2, bcap2, bcur2, rfl, hbg, hbk, hnc, hcm, htk⟩ := own_block HO.out (by omega)
          clear hB3 c9 bcur
          have hl8 : (lenW N).take 8 = lenW N := List.take_of_length_le (by rw [lenW_len]; omega)
          rw [hl8] at htk
          obtain ⟨TOT, hT⟩ : ∃ TOT, L1 ++ lenW N = TOT := ⟨_, rfl⟩
          have hTE : TOT = rest ++ padW N := by rw [← hT, ← HL1.out.1, padW_eq, HZ.out.1]; simp
          have hTL : TOT.length = m1 + 8 := by rw [← hT, List.length_append, HL1.out.2.2, lenW_len]
          have hTM : (m1 + 8) % 64 = 0 := by have := HQ.out.1; have := HL1.out.2.1; omega
          rw [hT] at htk
          have hrd := (hbk.alloc (.cells #[.int .u32 (a0 : Nat), .int .u32 (a1 : Nat), .int .u32 (a2 : Nat), .int .u32 (a3 : Nat), .int .u32 (a4 : Nat), .int .u32 (a5 : Nat), .int .u32 (a6 : Nat), .int .u32 (a7 : Nat)] 125)).rd (m1 + 8)
          rw [htk] at hrd
          have hgt := hbk.lt
          have hG := Lib.hid (And.intro hrd (And.intro ((Bk.new wr 125 (row8 [a0, a1, a2, a3, a4, a5, a6, a7]))) (And.intro (HBL.out.alloc HBL.out.size (.cells #[.int .u32 (a0 : Nat), .int .u32 (a1 : Nat), .int .u32 (a2 : Nat), .int .u32 (a3 : Nat), .int .u32 (a4 : Nat), .int .u32 (a5 : Nat), .int .u32 (a6 : Nat), .int .u32 (a7 : Nat)] 125)) (And.intro hTE (And.intro hTL (And.intro hTM hgt))))))
          clear htk hbk hrd hT hTE hTL hTM hgt HO hl8
          have HMIX : Hid (∀ (w' : World) (A : Option Addr) (c : Nat) (b : List UInt8) (a0 a1 a2 a3 a4 a5 a6 a7 b0 b1 b2 b3 b4 b5 b6 b7 : Nat), Wd8 [a0, a1, a2, a3, a4, a5, a6, a7] → b.length = 64 → Rd w' A (byteVals b) → mixW [a0, a1, a2, a3, a4, a5, a6, a7] b = [b0, b1, b2, b3, b4, b5, b6, b7] → Calls Try.prog 90 #[.agg #[.int .u32 (a0 : Nat), .int .u32 (a1 : Nat), .int .u32 (a2 : Nat), .int .u32 (a3 : Nat), .int .u32 (a4 : Nat), .int .u32 (a5 : Nat), .int .u32 (a6 : Nat), .int .u32 (a7 : Nat)], .slice A 64 c] w' fun e w'' => e = .returned (.agg #[.int .u32 (b0 : Nat), .int .u32 (b1 : Nat), .int .u32 (b2 : Nat), .int .u32 (b3 : Nat), .int .u32 (b4 : Nat), .int .u32 (b5 : Nat), .int .u32 (b6 : Nat), .int .u32 (b7 : Nat)]) ∧ Below w'.heap.size w' w'') := Lib.hid fun w' A c b a0 a1 a2 a3 a4 a5 a6 a7 b0 b1 b2 b3 b4 b5 b6 b7 h8 hb hr he => by
            have := mix_any a0 a1 a2 a3 a4 a5 a6 a7 b A c hb w' hr h8
            rw [he] at this
            exact this
          go_wp2_with fail
          have hsw := HBL.out.size
          obtain ⟨gv, hgv⟩ : ∃ gv, wr.heap.size = gv := ⟨_, rfl⟩
          rw [hgv] at hsw hG ⊢
          obtain ⟨H0, hH0⟩ : ∃ H0, [a0, a1, a2, a3, a4, a5, a6, a7] = H0 := ⟨_, rfl⟩
          rw [hH0] at HH
          have hG1 : Hid (Bk (wr.alloc (.cells #[.int .u32 (a0 : Nat), .int .u32 (a1 : Nat), .int .u32 (a2 : Nat), .int .u32 (a3 : Nat), .int .u32 (a4 : Nat), .int .u32 (a5 : Nat), .int .u32 (a6 : Nat), .int .u32 (a7 : Nat)] 125)) gv 125 (row8 H0)) := Lib.hid (by rw [← hH0]; exact hG.out.2.1)
          have HH0 := Lib.hid (And.intro hH0 hgv)
          have HGV := Lib.hid hgv
          clear hH0 hgv HB
          generalize wr.alloc (.cells #[.int .u32 (a0 : Nat), .int .u32 (a1 : Nat), .int .u32 (a2 : Nat), .int .u32 (a3 : Nat), .int .u32 (a4 : Nat), .int .u32 (a5 : Nat), .int .u32 (a6 : Nat), .int .u32 (a7 : Nat)] 125) = wz at *
          go_loopw [3] (fun v3 wr => ∃ (H : List Nat) (rs : List UInt8) (A : Option Addr) (c : Nat), v3 = .slice A rs.length c ∧ rs.length ≤ c ∧ c ≤ maxLen ∧ Hid (rs.length % 64 = 0) ∧ Hid (Wd8 H) ∧ Hid (Rd wr A (byteVals rs)) ∧ Hid (Off gv A (byteVals rs)) ∧ Hid (Bk wr gv 125 (row8 H)) ∧ Hid (Below w.heap.size w wr) ∧ Hid (blocksW (TOT.length / 64) H0 TOT = blocksW (rs.length / 64) H rs)) (fun v3 _ => vlen v3)
          case atStart => exact ⟨H0, TOT, some ⟨bg2, 0, none⟩, bcap2, by rw [hG.out.2.2.2.2.1], by rw [hG.out.2.2.2.2.1]; omega, hcm, Lib.hid (by rw [hG.out.2.2.2.2.1]; exact hG.out.2.2.2.2.2.1), HH, Lib.hid hG.out.1, Lib.hid (fun _ ad hA => by cases hA; show bg2 ≠ gv; have := hG.out.2.2.2.2.2.2; omega), hG1, Lib.hid hG.out.2.2.1, Lib.hid rfl⟩
          case round =>
            clear hcm hnc hG1 hbg HH c0 c1 c2 c3 c4 c5 c6 c7 hi hlt hB8 hkz hk hz hm1b
            obtain ⟨H, rs, A, c, rfl, hc1, hc2, HRM, HW, HR, HO, HBk, HBL2, HE⟩ := hrel
            obtain ⟨m, hm⟩ : ∃ m, rs.length = m := ⟨_, rfl⟩
            have HM := Lib.hid hm
            rw [hm] at hc1 HRM ⊢
            clear hm
            by_cases h0 : m = 0
            · subst h0
              have HF := Lib.hid (And.intro (show blocksW (TOT.length / 64) H0 TOT = H by rw [HE.out, HM.out]; rfl) trivial)
              clear HE HM
              obtain ⟨a0, a1, a2, a3, a4, a5, a6, a7, rfl⟩ := eight HW.out.1
              have c0 := HBk.out.cell_ 0 (.int .u32 (a0 : Nat)) rfl
              have c1 := HBk.out.cell_ 1 (.int .u32 (a1 : Nat)) rfl
              have c2 := HBk.out.cell_ 2 (.int .u32 (a2 : Nat)) rfl
              have c3 := HBk.out.cell_ 3 (.int .u32 (a3 : Nat)) rfl
              have c4 := HBk.out.cell_ 4 (.int .u32 (a4 : Nat)) rfl
              have c5 := HBk.out.cell_ 5 (.int .u32 (a5 : Nat)) rfl
              have c6 := HBk.out.cell_ 6 (.int .u32 (a6 : Nat)) rfl
              have c7 := HBk.out.cell_ 7 (.int .u32 (a7 : Nat)) rfl
              go_wp2_with fail
              obtain ⟨HX, hHX⟩ : ∃ HX, [a0, a1, a2, a3, a4, a5, a6, a7] = HX := ⟨_, rfl⟩
              have hLX : HX.length = 8 := by rw [← hHX]; rfl
              have hix : Hid (∀ (j : Nat) (w' : World), j < 8 → (Instr.index 125 (.agg #[.int .u32 (a0 : Nat), .int .u32 (a1 : Nat), .int .u32 (a2 : Nat), .int .u32 (a3 : Nat), .int .u32 (a4 : Nat), .int .u32 (a5 : Nat), .int .u32 (a6 : Nat), .int .u32 (a7 : Nat)]) (.int .i64 (j : Int))).run Try.prog w' = .ok (.int .u32 (HX.getD j 0 : Nat)) w') := Lib.hid fun j w' hj => run_index_agg 125 124 8 #[.int .u32 (a0 : Nat), .int .u32 (a1 : Nat), .int .u32 (a2 : Nat), .int .u32 (a3 : Nat), .int .u32 (a4 : Nat), .int .u32 (a5 : Nat), .int .u32 (a6 : Nat), .int .u32 (a7 : Nat)] j _ w' Try.underlying125 rfl rfl rfl hj (by rw [show (#[.int .u32 (a0 : Nat), .int .u32 (a1 : Nat), .int .u32 (a2 : Nat), .int .u32 (a3 : Nat), .int .u32 (a4 : Nat), .int .u32 (a5 : Nat), .int .u32 (a6 : Nat), .int .u32 (a7 : Nat)] : Array Value) = row8 HX by rw [← hHX]; rfl]; exact row8_get HX j (by omega))
              go_loopw [6, 57] (fun vo vi wr => ∃ i : Nat, vi = .int .i64 (i : Nat) ∧ i ≤ 8 ∧ Hid (wr.ownsRow w.heap.size 5 1 vo (4 * i) (byteVals ((HX.take i).flatMap bytes4))) ∧ Hid (Below w.heap.size w wr)) (fun _ vi _ => 8 - (intOf vi).toNat)
              case atStart => exact ⟨0, rfl, by omega, Lib.hid ⟨rfl, Or.inl ⟨rfl, rfl⟩⟩, HBL2⟩
              case round =>
                obtain ⟨i, rfl, hi, HO2, HBL3⟩ := hrel
                by_cases hlt : i < 8
                · have hl8 : (i : Int) < 8 := by omega
                  have hx := fun w' => hix.out i w' hlt
                  obtain ⟨x, hxE⟩ : ∃ x, HX.getD i 0 = x := ⟨_, rfl⟩
                  rw [hxE] at hx
                  have HXE := Lib.hid (And.intro hxE trivial)
                  clear hxE hlt c0 c1 c2 c3 c4 c5 c6 c7
                  go_wp2_with (at_builtin; go_must (refine wpList_append_rowN _ rfl (.tmp 60) (.tmp 72) 80 rfl w.heap.size 5 1 1 el_byteH _ _ _ HO2.out rfl _ 4 rfl rfl (by intro u hu; simp at hu; rcases hu with rfl | rfl | rfl | rfl <;> rfl) (by unfold maxLen; omega) (by omega) HBL3.out.size ?_); intro v2 w2 hown2 hb2)
                  have hown3 : w2.ownsRow w.heap.size 5 1 v2 (4 * (i + 1)) (byteVals ((HX.take (i + 1)).flatMap bytes4)) := by
                    rw [flat_step HX i (by omega), HXE.out.1, vals4]
                    exact hown2
                  go_round
                  case rel => exact ⟨i + 1, by first | rfl | go_num, by omega, Lib.hid hown3, Lib.hid (HBL3.out.trans hb2)⟩
                  case measure => simp [intOf]; omega
                · obtain rfl : i = 8 := by omega
                  have hcv := conv_own (P := Try.prog) HO2.out 80 9 5 Try.underlying80 Try.underlying5 Try.underlying9
                  rw [List.take_of_length_le (by omega)] at hcv
                  clear c0 c1 c2 c3 c4 c5 c6 c7
                  go_wp2_with fail
                  go_ret
                  refine ⟨?_, HBL3.out⟩
                  have hR : blocksW ((r + (padW N).length) / 64) H0 (rest ++ padW N) = HX := by
                    rw [← hHX, ← HF.out.1, ← hG.out.2.2.2.1, ← HLR.out, ← List.length_append, ← hG.out.2.2.2.1]
                  rw [HH0.out.1, hR]
                  rfl
            · obtain ⟨a0, a1, a2, a3, a4, a5, a6, a7, rfl⟩ := eight HW.out.1
              have h64 : 64 ≤ m := by have := HRM.out; omega
              have l64 : (64 : Int) ≤ (m : Int) := by omega
              have l0 : (0 : Int) < (m : Int) := by omega
              have l64c : (64 : Int) ≤ (c : Int) := by omega
              obtain ⟨bb, oo, rfl, hcl⟩ := HR.out (by intro e; have := byteVals_length rs; rw [e, HM.out] at this; simp at this; omega)
              have HCL := Lib.hid hcl
              have HRT : Hid (Rd wr (some ⟨bb, oo, none⟩) (byteVals (rs.take 64))) := Lib.hid (by have := HR.out.take 64; unfold byteVals at this ⊢; rw [← List.map_take] at this; exact this)
              have hw8 := mix_ok HW.out (rs.take 64)
              obtain ⟨b0, b1, b2, b3, b4, b5, b6, b7, hmx⟩ := eight hw8.1
              rw [hmx] at hw8
              have HMX := Lib.hid (And.intro hmx trivial)
              have HW2 := Lib.hid hw8
              clear hcl hmx hw8
              have c0 := HBk.out.cell_ 0 (.int .u32 (a0 : Nat)) rfl
              have c1 := HBk.out.cell_ 1 (.int .u32 (a1 : Nat)) rfl
              have c2 := HBk.out.cell_ 2 (.int .u32 (a2 : Nat)) rfl
              have c3 := HBk.out.cell_ 3 (.int .u32 (a3 : Nat)) rfl
              have c4 := HBk.out.cell_ 4 (.int .u32 (a4 : Nat)) rfl
              have c5 := HBk.out.cell_ 5 (.int .u32 (a5 : Nat)) rfl
              have c6 := HBk.out.cell_ 6 (.int .u32 (a6 : Nat)) rfl
              have c7 := HBk.out.cell_ 7 (.int .u32 (a7 : Nat)) rfl
              go_wp2_with fail
              go_region_with (go_at_call 90; go_loud ((with_reducible refine (HMIX.out _ (some ⟨bb, oo, none⟩) c (rs.take 64) a0 a1 a2 a3 a4 a5 a6 a7 b0 b1 b2 b3 b4 b5 b6 b7 HW.out (by rw [List.length_take, HM.out]; omega) (Rd.drewH HRT.out) HMX.out.1).mono ?_); rintro e w3 ⟨rfl, hb3⟩; have hB3 : Bk w3 gv 125 (row8 [a0, a1, a2, a3, a4, a5, a6, a7]) := HBk.out.below' (below_of_drew hb3); have d0 := hB3.cell_ 0 (.int .u32 (a0 : Nat)) rfl; have z0 := hB3.frozen 0; have d1 := hB3.cell_ 1 (.int .u32 (a1 : Nat)) rfl; have z1 := hB3.frozen 1; have d2 := hB3.cell_ 2 (.int .u32 (a2 : Nat)) rfl; have z2 := hB3.frozen 2; have d3 := hB3.cell_ 3 (.int .u32 (a3 : Nat)) rfl; have z3 := hB3.frozen 3; have d4 := hB3.cell_ 4 (.int .u32 (a4 : Nat)) rfl; have z4 := hB3.frozen 4; have d5 := hB3.cell_ 5 (.int .u32 (a5 : Nat)) rfl; have z5 := hB3.frozen 5; have d6 := hB3.cell_ 6 (.int .u32 (a6 : Nat)) rfl; have z6 := hB3.frozen 6; have d7 := hB3.cell_ 7 (.int .u32 (a7 : Nat)) rfl; have z7 := hB3.frozen 7))
              all_goals
                have hb3' := below_of_drew hb3
                have hB4 := ((((((((hB3.set_ 0 (.int .u32 (b0 : Nat))).set_ 1 (.int .u32 (b1 : Nat))).set_ 2 (.int .u32 (b2 : Nat))).set_ 3 (.int .u32 (b3 : Nat))).set_ 4 (.int .u32 (b4 : Nat))).set_ 5 (.int .u32 (b5 : Nat))).set_ 6 (.int .u32 (b6 : Nat))).set_ 7 (.int .u32 (b7 : Nat)))
                rw [row8_words] at hB4
                have hbl4 := (HBL2.out.trans (hb3'.mono HBL2.out.size)).trans (below_only (only_trans (only_trans (only_trans (only_trans (only_trans (only_trans (only_trans (only_set w3 gv 0 (.int .u32 (b0 : Nat))) (only_set (w3.setCell ⟨gv, 0, none⟩ (.int .u32 (b0 : Nat))) gv 1 (.int .u32 (b1 : Nat)))) (only_set ((w3.setCell ⟨gv, 0, none⟩ (.int .u32 (b0 : Nat))).setCell ⟨gv, 1, none⟩ (.int .u32 (b1 : Nat))) gv 2 (.int .u32 (b2 : Nat)))) (only_set (((w3.setCell ⟨gv, 0, none⟩ (.int .u32 (b0 : Nat))).setCell ⟨gv, 1, none⟩ (.int .u32 (b1 : Nat))).setCell ⟨gv, 2, none⟩ (.int .u32 (b2 : Nat))) gv 3 (.int .u32 (b3 : Nat)))) (only_set ((((w3.setCell ⟨gv, 0, none⟩ (.int .u32 (b0 : Nat))).setCell ⟨gv, 1, none⟩ (.int .u32 (b1 : Nat))).setCell ⟨gv, 2, none⟩ (.int .u32 (b2 : Nat))).setCell ⟨gv, 3, none⟩ (.int .u32 (b3 : Nat))) gv 4 (.int .u32 (b4 : Nat)))) (only_set (((((w3.setCell ⟨gv, 0, none⟩ (.int .u32 (b0 : Nat))).setCell ⟨gv, 1, none⟩ (.int .u32 (b1 : Nat))).setCell ⟨gv, 2, none⟩ (.int .u32 (b2 : Nat))).setCell ⟨gv, 3, none⟩ (.int .u32 (b3 : Nat))).setCell ⟨gv, 4, none⟩ (.int .u32 (b4 : Nat))) gv 5 (.int .u32 (b5 : Nat)))) (only_set ((((((w3.setCell ⟨gv, 0, none⟩ (.int .u32 (b0 : Nat))).setCell ⟨gv, 1, none⟩ (.int .u32 (b1 : Nat))).setCell ⟨gv, 2, none⟩ (.int .u32 (b2 : Nat))).setCell ⟨gv, 3, none⟩ (.int .u32 (b3 : Nat))).setCell ⟨gv, 4, none⟩ (.int .u32 (b4 : Nat))).setCell ⟨gv, 5, none⟩ (.int .u32 (b5 : Nat))) gv 6 (.int .u32 (b6 : Nat)))) (only_set (((((((w3.setCell ⟨gv, 0, none⟩ (.int .u32 (b0 : Nat))).setCell ⟨gv, 1, none⟩ (.int .u32 (b1 : Nat))).setCell ⟨gv, 2, none⟩ (.int .u32 (b2 : Nat))).setCell ⟨gv, 3, none⟩ (.int .u32 (b3 : Nat))).setCell ⟨gv, 4, none⟩ (.int .u32 (b4 : Nat))).setCell ⟨gv, 5, none⟩ (.int .u32 (b5 : Nat))).setCell ⟨gv, 6, none⟩ (.int .u32 (b6 : Nat))) gv 7 (.int .u32 (b7 : Nat)))) hsw (Nat.le_trans HBL2.out.size hb3'.size))
                have hr3 := HR.out.below hb3'
                have hr4 := ((((((((hr3.only (only_set w3 gv 0 (.int .u32 (b0 : Nat))) HO.out).only (only_set (w3.setCell ⟨gv, 0, none⟩ (.int .u32 (b0 : Nat))) gv 1 (.int .u32 (b1 : Nat))) HO.out).only (only_set ((w3.setCell ⟨gv, 0, none⟩ (.int .u32 (b0 : Nat))).setCell ⟨gv, 1, none⟩ (.int .u32 (b1 : Nat))) gv 2 (.int .u32 (b2 : Nat))) HO.out).only (only_set (((w3.setCell ⟨gv, 0, none⟩ (.int .u32 (b0 : Nat))).setCell ⟨gv, 1, none⟩ (.int .u32 (b1 : Nat))).setCell ⟨gv, 2, none⟩ (.int .u32 (b2 : Nat))) gv 3 (.int .u32 (b3 : Nat))) HO.out).only (only_set ((((w3.setCell ⟨gv, 0, none⟩ (.int .u32 (b0 : Nat))).setCell ⟨gv, 1, none⟩ (.int .u32 (b1 : Nat))).setCell ⟨gv, 2, none⟩ (.int .u32 (b2 : Nat))).setCell ⟨gv, 3, none⟩ (.int .u32 (b3 : Nat))) gv 4 (.int .u32 (b4 : Nat))) HO.out).only (only_set (((((w3.setCell ⟨gv, 0, none⟩ (.int .u32 (b0 : Nat))).setCell ⟨gv, 1, none⟩ (.int .u32 (b1 : Nat))).setCell ⟨gv, 2, none⟩ (.int .u32 (b2 : Nat))).setCell ⟨gv, 3, none⟩ (.int .u32 (b3 : Nat))).setCell ⟨gv, 4, none⟩ (.int .u32 (b4 : Nat))) gv 5 (.int .u32 (b5 : Nat))) HO.out).only (only_set ((((((w3.setCell ⟨gv, 0, none⟩ (.int .u32 (b0 : Nat))).setCell ⟨gv, 1, none⟩ (.int .u32 (b1 : Nat))).setCell ⟨gv, 2, none⟩ (.int .u32 (b2 : Nat))).setCell ⟨gv, 3, none⟩ (.int .u32 (b3 : Nat))).setCell ⟨gv, 4, none⟩ (.int .u32 (b4 : Nat))).setCell ⟨gv, 5, none⟩ (.int .u32 (b5 : Nat))) gv 6 (.int .u32 (b6 : Nat))) HO.out).only (only_set (((((((w3.setCell ⟨gv, 0, none⟩ (.int .u32 (b0 : Nat))).setCell ⟨gv, 1, none⟩ (.int .u32 (b1 : Nat))).setCell ⟨gv, 2, none⟩ (.int .u32 (b2 : Nat))).setCell ⟨gv, 3, none⟩ (.int .u32 (b3 : Nat))).setCell ⟨gv, 4, none⟩ (.int .u32 (b4 : Nat))).setCell ⟨gv, 5, none⟩ (.int .u32 (b5 : Nat))).setCell ⟨gv, 6, none⟩ (.int .u32 (b6 : Nat))) gv 7 (.int .u32 (b7 : Nat))) HO.out)
                clear d0 z0 d1 z1 d2 z2 d3 z3 d4 z4 d5 z5 d6 z6 d7 z7 hb3 hb3' hr3 hB3
                generalize ((((((((w3.setCell ⟨gv, 0, none⟩ (.int .u32 (b0 : Nat))).setCell ⟨gv, 1, none⟩ (.int .u32 (b1 : Nat))).setCell ⟨gv, 2, none⟩ (.int .u32 (b2 : Nat))).setCell ⟨gv, 3, none⟩ (.int .u32 (b3 : Nat))).setCell ⟨gv, 4, none⟩ (.int .u32 (b4 : Nat))).setCell ⟨gv, 5, none⟩ (.int .u32 (b5 : Nat))).setCell ⟨gv, 6, none⟩ (.int .u32 (b6 : Nat))).setCell ⟨gv, 7, none⟩ (.int .u32 (b7 : Nat))) = w4 at *
                have HB4 := Lib.hid hB4
                have HBL4 := Lib.hid hbl4
                have HR4 := Lib.hid hr4
                clear hB4 hbl4 hr4 c0 c1 c2 c3 c4 c5 c6 c7 HR HCL HRT HBk HBL2
                have HRD : Hid (Rd w4 (some ⟨bb, oo + 64, none⟩) (byteVals (rs.drop 64))) := Lib.hid (by
                  obtain ⟨bb', oo', he, hcl⟩ := HR4.out (by intro e; have := byteVals_length rs; rw [e, HM.out] at this; simp at this; omega)
                  cases he
                  exact Rd.dropH hcl 64)
                have HE2 : Hid (blocksW (TOT.length / 64) H0 TOT = blocksW ((rs.drop 64).length / 64) [b0, b1, b2, b3, b4, b5, b6, b7] (rs.drop 64)) := Lib.hid (by rw [HE.out, blocks_step _ _ (by rw [HM.out]; exact h64), HMX.out.1])
                have HDL := Lib.hid (show (rs.drop 64).length = m - 64 by rw [List.length_drop, HM.out])
                by_cases hkc : c = 64
                · subst hkc
                  obtain rfl : m = 64 := by omega
                  have HNL := Lib.hid (show rs.drop 64 = [] from List.eq_nil_of_length_eq_zero (by rw [HDL.out]))
                  go_wp2_with fail
                  go_round
                  case rel => exact ⟨[b0, b1, b2, b3, b4, b5, b6, b7], rs.drop 64, some ⟨bb, oo, none⟩, 0, ⟨rfl, by rw [HDL.out], rfl⟩, by rw [HDL.out]; omega, by omega, Lib.hid (by rw [HDL.out]), HW2, Lib.hid (by rw [HNL.out]; exact Rd.nil _ _), Lib.hid (by rw [HNL.out]; intro h; exact absurd rfl h), HB4, HE2⟩
                  case measure => show 0 < 64; omega
                · have hkc2 : ¬ ((64 : Int) = (c : Int)) := by omega
                  have hkc3 : ¬ ((c : Int) = 64) := by omega
                  have HOF : Hid (Off gv (some ⟨bb, oo + 64, none⟩) (byteVals (rs.drop 64))) := Lib.hid fun h ad hA => by
                    have h1 := HO.out (by intro e; have := byteVals_length rs; rw [e, HM.out] at this; simp at this; omega) _ rfl
                    cases hA
                    exact h1
                  go_wp2_with fail
                  go_round
                  case rel => (repeat apply Exists.intro); exact ⟨⟨[b0, b1, b2, b3, b4, b5, b6, b7], rs.drop 64, some ⟨bb, oo + 64, none⟩, c - 64, by rw [HDL.out], by rw [HDL.out]; omega, by omega, Lib.hid (by rw [HDL.out]; have := HRM.out; omega), HW2, HRD, HOF, HB4, HBL4, HE2⟩, rfl⟩
                  case measure => show m - 64 < m; omega
end Go.Proofs.Ytnhbkfefpkocaaa
