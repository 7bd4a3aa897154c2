/-
  The code's disk: Crash.
-/
import Derived.Test.YthjjdjhmaffoeaaGreatDoorDkJ
namespace Go.Proofs.YthjjdjhmaffoeaaGreatDoor
open Go.RowKit Go.Maps

theorem uns_get : ∀ (fs : List Bool) (j k t : Nat), (unsF fs j)[k]? = some t → ∃ i, t = j + i ∧ fs[i]? = some true ∧ (fs.take i).countP id = k
  | [], j, k, t => fun h => by simp [unsF] at h
  | f :: fs, j, k, t => fun h => by
    unfold unsF at h
    cases f
    · simp only [Bool.false_eq_true, if_false] at h
      obtain ⟨i, e, h1, h2⟩ := uns_get fs (j + 1) k t h
      exact ⟨i + 1, by omega, by simpa using h1, by simpa using h2⟩
    · simp only [if_true] at h
      cases k with
      | zero =>
        simp at h
        exact ⟨0, by omega, by simp, by simp⟩
      | succ k =>
        obtain ⟨i, e, h1, h2⟩ := uns_get fs (j + 1) k t (by simpa using h)
        exact ⟨i + 1, by omega, by simpa using h1, by simp [h2]⟩
/-- The k-th bit of 62, that come again. -/
def bitOf (x : Int) (k : Nat) : Bool := bits .and .i64 (x / 2 ^ (k % 62)) 1 == 1
/-- The sectors while those that are not synced are gone through: the first k of them are done. -/
def MidC (S : St) (n : Nat) (bit : Nat → Bool) (k : Nat) (X : List ByteArray) : Prop :=
  X.length = n ∧ ∀ i : Nat, i < n → X[i]? = if S.fresh[i]? = some true ∧ (S.fresh.take i).countP id < k ∧ bit ((S.fresh.take i).countP id) = true then S.lst[i]? else S.old[i]?
theorem MidC.start {S : St} {n : Nat} (hok : S.Ok n) (bit : Nat → Bool) : MidC S n bit 0 S.old := ⟨hok.lo, fun i _ => by simp⟩
theorem MidC.end_ {S : St} {n : Nat} {X : List ByteArray} {bit : Nat → Bool} {k : Nat} (hok : S.Ok n) (h : MidC S n bit k X) (hk : S.uns.length ≤ k) : X = (S.crash bit).old := by
  refine List.ext_getElem? fun i => ?_
  have hg := kept_get bit S.fresh S.old S.lst 0 i (by rw [hok.lf, hok.lo]) (by rw [hok.ll, hok.lo])
  show _ = (kept bit S.fresh S.old S.lst 0)[i]?
  rw [hg, Nat.zero_add]
  by_cases hi : i < n
  · rw [h.2 i hi]
    by_cases hf : S.fresh[i]? = some true
    · have h1 := uns_at S.fresh 0 i hf
      have h2 := (List.getElem?_eq_some_iff.1 h1).1
      have h3 : (S.fresh.take i).countP id < k := Nat.lt_of_lt_of_le h2 hk
      simp [hf, h3]
    · simp [hf]
  · rw [List.getElem?_eq_none (by rw [h.1]; omega), List.getElem?_eq_none (l := S.lst) (by rw [hok.ll]; omega), List.getElem?_eq_none (l := S.old) (by rw [hok.lo]; omega)]
    simp
theorem MidC.step {S : St} {n : Nat} {X : List ByteArray} {bit : Nat → Bool} {k : Nat} (hok : S.Ok n) (h : MidC S n bit k X) {i : Nat} (hi : S.uns[k]? = some i) : MidC S n bit (k + 1) (if bit k = true then X.set i (S.lst.getD i ⟨#[]⟩) else X) := by
  obtain ⟨i', e, hf, hc⟩ := uns_get S.fresh 0 k i hi
  obtain rfl : i = i' := by omega
  have hin : i < n := by have := (List.getElem?_eq_some_iff.1 hf).1; rw [hok.lf] at this; exact this
  have hne : ∀ j : Nat, j ≠ i → S.fresh[j]? = some true → (S.fresh.take j).countP id ≠ k := fun j hj hfj hcj => by
    have h1 := uns_at S.fresh 0 j hfj
    rw [hcj] at h1
    have := hi.symm.trans h1
    simp at this
    omega
  refine ⟨by split <;> simp [h.1], fun j hj => ?_⟩
  by_cases hij : j = i
  · subst hij
    rw [hf, hc]
    cases hb : bit k
    · simp only [Bool.false_eq_true, if_false]
      rw [h.2 j hj, hf, hc]
      simp [hb]
    · simp only [if_true]
      rw [List.getElem?_set_self (by rw [h.1]; exact hj), if_pos ⟨trivial, by omega, trivial⟩, List.getD_eq_getElem?_getD, List.getElem?_eq_getElem (by rw [hok.ll]; exact hj)]
      rfl
  · have e1 : (if bit k = true then X.set i (S.lst.getD i ⟨#[]⟩) else X)[j]? = X[j]? := by
      split
      · exact List.getElem?_set_ne (fun e => hij e.symm)
      · rfl
    rw [e1, h.2 j hj]
    by_cases hfj : S.fresh[j]? = some true
    · have := hne j hij hfj
      have e2 : ((S.fresh.take j).countP id < k + 1) = ((S.fresh.take j).countP id < k) := by
        rw [eq_iff_iff]; omega
      simp only [e2]
    · simp [hfj]

structure CrashRel (w2 wr : World) (b g m c n : Nat) (S : St) (D : DataW Unit) (bit : Nat → Bool) (k : Nat) (A : Option Addr) (cur : Array Value) (X : List ByteArray) : Prop where
  rd : Rd wr A ((unsI S).map (Value.int .i64))
  mp : wr.ownsMap Tryz.prog 3 (plainElem Tryz.prog 9) m n D
  bk : Bk wr b 49 #[.slice (some ⟨g, 0, none⟩) n c, .map (some m), .int .i64 S.fuse, .bool S.dead]
  row : Bk wr g 9 cur
  cells : cur.toList.take n = strs X
  mid : MidC S n bit k X
  keep : Keep3 b g m w2 wr

set_option maxRecDepth 100000 in
set_option maxHeartbeats 4000000 in
theorem crash_any (w : World) (b g m : Nat) (S : St) (n : Nat) (x : Int) (h : DiskAt w b g m S n) :
    Calls Tryz.prog 16 #[.pointer (some ⟨b, 0, none⟩), .int .i64 x] w fun e w' => e = .returned (.tuple #[]) ∧ DiskAt w' b g m (S.crash (bitOf x)) n ∧ Keep3 b g m w w' := by
  have HD := Lib.hid h
  have HU := Lib.hid (uns_any w b g m S n h)
  have HNE := Lib.hid h.gne
  obtain ⟨L, hL⟩ : ∃ L, (unsI S).length = L := ⟨_, rfl⟩
  have HLL := Lib.hid hL
  rw [hL] at HU
  have hLn : L ≤ n := by
    rw [← hL]
    unfold unsI St.uns
    rw [List.length_map, uns_len]
    exact Nat.le_trans List.countP_le_length (Nat.le_of_eq (DiskAt.ok h).lf)
  have hfu := h.fu
  clear h hL
  go_enter Tryz.func16, Tryz.ntmps16
  go_wp2_with fail
  (with_reducible refine HU.out.mono ?_)
  rintro e w1 ⟨A, cc, rfl, hc1, hc2, hrd, hfr, hb1⟩
  have H1 := HD.out.below hb1
  obtain ⟨cur, c, D, hB, hG, hcur, hc, hM, hDS, hkk, hsz, hbg, hok, hn1, hn2, hfs⟩ := H1
  have HREL : Hid (CrashRel w w1 b g m c n S D (bitOf x) 0 A cur S.old) := Lib.hid ⟨hrd, hM, hB, hG, hcur, MidC.start hok _, Keep3.of_below hb1⟩
  have HDS := Lib.hid (And.intro hDS (And.intro hkk hsz))
  have HOK := Lib.hid hok
  have HC := Lib.hid hc
  have HRD := Lib.hid hrd
  have HFR := Lib.hid hfr
  have HDL := Lib.hid (And.intro HD.out.cells (HD.out.gne))
  clear hB hG hcur hc hM hDS hkk hsz hok hrd hfr hb1 hc1 hc2
  have HWF : Hid (∀ k : Nat, k ≤ 1024 → IntKind.i64.wrap ((k : Int) + 1) = (k : Int) + 1) := Lib.hid fun k hk => by rw [IntKind.wrap_i64]; omega
  go_wp2_with fail
  go_loopw [11] (fun i wr => ∃ (k : Nat) (cu : Array Value) (X : List ByteArray), k ≤ L ∧ i = .int .i64 k ∧ CrashRel w wr b g m c n S D (bitOf x) k A cu X) (fun i _ => L - (intOf i).toNat)
  case atStart => exact ⟨0, _, _, Nat.zero_le _, rfl, HREL.out⟩
  case round =>
    obtain ⟨k, cu, X, hkL, rfl, hR⟩ := hrel
    have HR := Lib.hid hR
    by_cases hkl : k < L
    · have hk1 : (k : Int) < (L : Int) := by omega
      have hk0 : (0 : Int) ≤ (k : Int) := by omega
      obtain ⟨ab, ao, eA, hcA⟩ := hR.rd.at_ (k := k) (by rw [List.length_map, HLL.out]; exact hkl)
      subst eA
      have hut : ∃ j : Nat, S.uns[k]? = some j ∧ (unsI S)[k]? = some (j : Int) := by
        have h1 : k < S.uns.length := by have := HLL.out; unfold unsI at this; rw [List.length_map] at this; omega
        refine ⟨S.uns[k], List.getElem?_eq_getElem h1, ?_⟩
        unfold unsI
        rw [List.getElem?_map, List.getElem?_eq_getElem h1]
        rfl
      obtain ⟨j, hj1, hj2⟩ := hut
      have hcA2 : wr.cell? ⟨ab, ao + k, none⟩ = some (.int .i64 (j : Int)) := by
        rw [hcA]
        have h3 : ((unsI S).map (Value.int .i64))[k]? = some (.int .i64 (j : Int)) := by rw [List.getElem?_map, hj2]; rfl
        rw [List.getElem?_eq_getElem (by rw [List.length_map, HLL.out]; exact hkl)] at h3
        exact h3
      have HJ := Lib.hid hj1
      obtain ⟨hfj, hcj⟩ : S.fresh[j]? = some true ∧ (S.fresh.take j).countP id = k := by
        obtain ⟨j', e, h1, h2⟩ := uns_get S.fresh 0 k j hj1
        obtain rfl : j = j' := by omega
        exact ⟨h1, h2⟩
      have hjn : j < n := by have := (List.getElem?_eq_some_iff.1 hfj).1; rw [HOK.out.lf] at this; exact this
      have hjn1 : (j : Int) < (n : Int) := by omega
      have hjn0 : (0 : Int) ≤ (j : Int) := by omega
      have q0 : wr.drew.cell? ⟨b, 0, none⟩ = some (.slice (some ⟨g, 0, none⟩) n c) := by
        have := hR.bk.cell 0
        simp only [List.getElem?_toArray, List.getElem?_cons_zero] at this
        exact this
      have q1 : wr.drew.cell? ⟨b, 1, none⟩ = some (.map (some m)) := by
        have := hR.bk.cell 1
        simp only [List.getElem?_toArray, List.getElem?_cons_succ, List.getElem?_cons_zero] at this
        exact this
      have hjc : j < cu.size := by
        have h8 : ((cu.toList.take n).length) = n := by rw [hR.cells]; simp [strs, hR.mid.1]
        rw [List.length_take, Array.length_toList] at h8
        omega
      have qg : wr.drew.cell? ⟨g, j, none⟩ = some (cu[j]'hjc) := by
        have := hR.row.cell j
        rw [Array.getElem?_eq_getElem hjc] at this
        exact this
      have fg : wr.drew.frozen? ⟨g, j, none⟩ = false := hR.row.frozen j
      have hwf : (Lit.int .i64 (j : Int)).wf = true := WalkArith.wf_i64 (by omega)
      have hkey := keyOf_int_mk Tryz.underlying3 hwf
      have hlk0 : ∃ v ps, (Instr.lookup 47 (.map (some m)) (.int .i64 (j : Int)) false).run Tryz.prog wr.drew = .ok v wr.drew ∧ plainElem Tryz.prog 9 v = some (D.atKey (.int .i64 (j : Int)) (.lit (.string [])), ps) :=
        hR.mp.drew.lookup law_int Tryz.underlying47 (zero_str _) (plainElem_string Tryz.underlying9 (by decide)) hkey
      obtain ⟨v, ps, hlk, hv⟩ := hlk0
      obtain ⟨t, rfl, ht, _⟩ := plainElem_string_inv Tryz.underlying9 hv
      have hjl : j < S.lst.length := by rw [HOK.out.ll]; exact hjn
      have HTL := Lib.hid (show S.lst.getD j ⟨#[]⟩ = t by
        have h1 := ((HDS.out.1 j hjl).2 (.lit (.string [])) hfj)
        have h2 := congrArg Prod.fst ht
        simp only at h2
        rw [h1] at h2
        simp only [DataW.lit.injEq, Lit.string.injEq] at h2
        exact str_of_data h2)
      have s0 : (wr.drew.setCell ⟨g, j, none⟩ (.string t)).cell? ⟨b, 0, none⟩ = some (.slice (some ⟨g, 0, none⟩) n c) := by
        have := (hR.bk.far (p := ⟨g, j, none⟩) HNE.out.2.1 (.string t)).cell 0
        simp only [List.getElem?_toArray, List.getElem?_cons_zero] at this
        exact this
      have s1 : (wr.drew.setCell ⟨g, j, none⟩ (.string t)).cell? ⟨b, 1, none⟩ = some (.map (some m)) := by
        have := (hR.bk.far (p := ⟨g, j, none⟩) HNE.out.2.1 (.string t)).cell 1
        simp only [List.getElem?_toArray, List.getElem?_cons_succ, List.getElem?_cons_zero] at this
        exact this
      have HABG : Hid (ab ≠ g) := Lib.hid (by
        have h1 := HFR.out _ rfl
        have h2 : g < w.heap.size := by
          obtain ⟨_, _, _, _, hG, _⟩ := HD.out
          exact hG.lt
        simp at h1
        omega)
      clear hcA hj1 hj2 hR hv ht hkey hwf hfj hcj
      go_wp2_with fail
      · go_region_held3 (fun w' => w'.cell? ⟨b, 0, none⟩ = some (.slice (some ⟨g, 0, none⟩) n c) ∧ w'.cell? ⟨b, 1, none⟩ = some (.map (some m))) (first | exact ⟨q0, q1⟩ | exact ⟨s0, s1⟩) (first | fail)
        have HB := Lib.hid (by assumption : (bits .and .i64 (x / 2 ^ (k % 62)) 1 == 1) = true)
        go_wp2_with fail
        go_roundw
        case rel =>
          have hR := HR.out
          have hm := hR.mid.step HOK.out HJ.out
          rw [show bitOf x k = true from HB.out, if_pos rfl, HTL.out] at hm
          have hgd : wr.grownBy (wr.setCell ⟨g, j, none⟩ (.string t)).drew (some g) := only_trans (only_set wr g j (.string t)) (only_drew _ g)
          refine ⟨k + 1, cu.setIfInBounds j (.string t), X.set j t, by omega, congrArg _ (by omega), ⟨hR.rd.only hgd (fun _ ad hA => by cases hA; exact HABG.out), hR.mp.kept hgd (by simp; exact HNE.out.1), hR.bk.far (p := ⟨g, j, none⟩) HNE.out.2.1 _, hR.row.set_ j _, ?_, hm, hR.keep.trans (Keep3.of_only hgd (.inr (.inl rfl)))⟩⟩
          rw [Array.toList_setIfInBounds, List.take_set, hR.cells]
          unfold strs
          rw [List.map_set]
        case measure => simp [intOf]; omega
      · have HB := Lib.hid (by assumption : (bits .and .i64 (x / 2 ^ (k % 62)) 1 == 1) = false)
        go_roundw
        case rel =>
          have hR := HR.out
          have hm := hR.mid.step HOK.out HJ.out
          rw [show bitOf x k = false from HB.out, if_neg (by simp)] at hm
          exact ⟨k + 1, cu, X, by omega, congrArg _ (by omega), ⟨hR.rd, hR.mp, hR.bk, hR.row, hR.cells, hm, hR.keep⟩⟩
        case measure => simp [intOf]; omega
    · have hk1 : ¬ (k : Int) < (L : Int) := by omega
      have q1 := hR.bk.cell 1
      simp only [List.getElem?_toArray, List.getElem?_cons_succ, List.getElem?_cons_zero] at q1
      obtain ⟨w5, hcl, hM5, hg5⟩ := clear_own Tryz.underlying47 hR.mp
      have hB5 := hR.bk.only hg5 (fun e => HNE.out.2.2 e.symm)
      have z2 := hB5.cell 2
      have z3 := hB5.cell 3
      simp only [List.getElem?_toArray, List.getElem?_cons_succ, List.getElem?_cons_zero] at z2 z3
      have y2 := hB5.frozen 2
      have y3 := hB5.frozen 3
      have HM5 := Lib.hid hM5
      have HG5 := Lib.hid hg5
      have HB5 := Lib.hid hB5
      clear hR hM5 hg5 hB5 hkl
      go_wp2_with fail
      go_end0
      have hR := HR.out
      have hX := hR.mid.end_ HOK.out (by have h1 := HLL.out; unfold unsI at h1; rw [List.length_map] at h1; omega)
      have hcells := hR.cells
      rw [hX] at hcells
      have hfr : (S.crash (bitOf x)).fresh = List.replicate n false := by show (S.fresh.map fun _ => false) = _; rw [fresh_off, HOK.out.lf]
      have hB6 := (HB5.out.set_ 2 (.int .i64 (-1))).set_ 3 (.bool false)
      simp only [List.setIfInBounds_toArray, List.set_cons_succ, List.set_cons_zero] at hB6
      have hg6 := only_trans (only_set w5 b 2 (.int .i64 (-1))) (only_set (w5.setCell ⟨b, 2, none⟩ (.int .i64 (-1))) b 3 (.bool false))
      refine ⟨rfl, DiskAt.mk_clear (c := c) (cur := cu) hB6 ((hR.row.only HG5.out (fun e => HNE.out.1 e.symm)).only hg6 (fun e => HNE.out.2.1 e.symm)) hcells HC.out (HM5.out.kept hg6 (by simp; exact HNE.out.2.2)) (Nat.zero_le _) hfr hbg (HOK.out.crash _) hn1 hn2 (by show (-1 : Int) ≤ _; omega), (hR.keep.trans (Keep3.of_only HG5.out (.inr (.inr rfl)))).trans (Keep3.of_only hg6 (.inl rfl))⟩
end Go.Proofs.YthjjdjhmaffoeaaGreatDoor
