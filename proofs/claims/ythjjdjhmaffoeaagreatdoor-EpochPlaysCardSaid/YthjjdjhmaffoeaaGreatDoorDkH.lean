/-
  The code's disk: Sync.
-/
import Derived.Test.YthjjdjhmaffoeaaGreatDoorDkG
import Derived.Maps.RangeWalk
namespace Go.Proofs.YthjjdjhmaffoeaaGreatDoor
open Go.RowKit Go.Maps Go.MapKept Go.WideElems Go.ChangeMaps Go.WideShapes

/-- 'clear(m)'. -/
theorem clear_own {H : Type} {P : Program} {k : TypeId} {R : Value → Option (DataW H × List MemPlace)} {w : World} {b n : Nat} {D : DataW H} {t e : TypeId} (ht : P.underlying t = some (.map k e)) (h : w.ownsMap P k R b n D) :
    ∃ w', (∀ ty, (Builtin.clear_ #[t] ty #[.map (some b)]).run P w = .ok (.tuple #[]) w') ∧ w'.ownsMap P k R b 0 (.map []) ∧ w.grownBy w' (some b) := by
  obtain ⟨es, clock, hb, F, hs, rfl⟩ := h
  refine ⟨setBlock w b (.map #[] clock), fun ty => ?_, ⟨#[], clock, heap_setBlock_same hb _, ⟨by simp, stamped_empty clock, by simp⟩, Nat.le_refl _, rfl⟩, ⟨rfl, rfl, rfl, by simp [setBlock], fun i _ hi => heap_setBlock_other hb _ (fun e => hi (by rw [e]))⟩⟩
  simp [Builtin.clear_, run_underlying ht, MapKept.run_getObj_map hb, MapKept.run_setObj_map _ hb, Result.andThen, setBlock]
theorem Keep3.only_new {b g m r : Nat} {w w1 w' : World} (h : Keep3 b g m w w1) (hr : w.heap.size ≤ r) (hg : w1.grownBy w' (some r)) : Keep3 b g m w w' :=
  ⟨hg.os.trans h.1, hg.tape.trans h.2.1, hg.output.trans h.2.2.1, Nat.le_trans h.2.2.2.1 hg.size, fun k hk a b' c => (hg.block k (Nat.lt_of_lt_of_le hk h.2.2.2.1) (by simp; omega)).trans (h.2.2.2.2 k hk a b' c)⟩
theorem Keep3.refl (b g m : Nat) (w : World) : Keep3 b g m w w := ⟨rfl, rfl, rfl, Nat.le_refl _, fun _ _ _ _ _ => rfl⟩
/-- The sectors while the map is gone through: those that are no longer to come are as they were written last. -/
def Mid (S : St) (n : Nat) (left : Lit → Bool) (X : List ByteArray) : Prop := X.length = n ∧ ∀ i : Nat, i < n → X[i]? = if S.fresh.getD i false = true ∧ left (.int .i64 i) = false then S.lst[i]? else S.old[i]?
structure SyncRel (w2 wr : World) (b g m r c n : Nat) (S : St) (D : DataW Unit) (left : Lit → Bool) (cnt : Nat) (cur : Array Value) (X : List ByteArray) : Prop where
  rg : wr.ranges Tryz.prog 3 (plainElem Tryz.prog 9) m r n D left cnt
  bk : Bk wr b 49 #[.slice (some ⟨g, 0, none⟩) n c, .map (some m), .int .i64 S.fuse, .bool S.dead]
  row : Bk wr g 9 cur
  cells : cur.toList.take n = strs X
  mid : Mid S n left X
  le : ∀ k, left k = true → Maps.has D k = true
  keep : Keep3 b g m w2 wr

theorem Mid.start {S : St} {n : Nat} {D : DataW Unit} (hok : S.Ok n) (hD : MapSt D S) : Mid S n (Maps.has D) S.old := by
  refine ⟨hok.lo, fun i hi => ?_⟩
  rw [if_neg]
  rintro ⟨h1, h2⟩
  rw [(hD i (by rw [hok.ll]; exact hi)).1, h1] at h2
  cases h2
theorem Mid.end_ {S : St} {n : Nat} {left : Lit → Bool} {X : List ByteArray} (hok : S.Ok n) (h : Mid S n left X) (hl : ∀ k, left k = false) : X = S.lst := by
  refine List.ext_getElem? fun i => ?_
  by_cases hi : i < n
  · rw [h.2 i hi]
    have hf : S.fresh[i]? = some (S.fresh.getD i false) := by rw [List.getD_eq_getElem?_getD, List.getElem?_eq_getElem (by rw [hok.lf]; exact hi)]; rfl
    cases hb : S.fresh.getD i false with
    | true => rw [if_pos ⟨rfl, hl _⟩]
    | false =>
      rw [hb] at hf
      rw [if_neg (by rintro ⟨h, _⟩; cases h), hok.same i hf]
  · rw [List.getElem?_eq_none (by rw [h.1]; omega), List.getElem?_eq_none (by rw [hok.ll]; omega)]
theorem Mid.step {S : St} {n : Nat} {left : Lit → Bool} {X : List ByteArray} (hok : S.Ok n) (h : Mid S n left X) {j : Nat} (hj : j < n) (hf : S.fresh.getD j false = true) {c : ByteArray} (hc : S.lst.getD j ⟨#[]⟩ = c) :
    Mid S n (fun z => left z && !z.sameKey (.int .i64 (j : Int))) (X.set j c) := by
  refine ⟨by simp [h.1], fun i hi => ?_⟩
  have hs : ∀ i : Nat, (Lit.int .i64 (i : Int)).sameKey (.int .i64 (j : Int)) = decide (i = j) := by
    intro i
    simp only [Lit.sameKey]
    rw [Bool.eq_iff_iff]
    simp
    omega
  simp only [hs i]
  by_cases hij : i = j
  · subst hij
    rw [List.getElem?_set_self (by rw [h.1]; exact hi)]
    rw [if_pos ⟨hf, by simp⟩, ← hc, List.getD_eq_getElem?_getD, List.getElem?_eq_getElem (by rw [hok.ll]; exact hi)]
    rfl
  · rw [List.getElem?_set_ne (fun e => hij e.symm), h.2 i hi]
    simp [hij]
theorem St.sync_may {S : St} {k : Int} (h : S.may 0 = k) (hk : k ≠ 0) : S.sync = (S, k) := by unfold St.sync; rw [h, if_pos hk]
theorem St.sync_die {S : St} (h : S.may 0 = 0) (hf : S.fuse = 0) : S.sync = (S.die, 7) := by unfold St.sync; rw [h, if_neg (by simp), if_pos hf]
theorem St.sync_ok {S : St} (h : S.may 0 = 0) (hf : S.fuse ≠ 0) : S.sync = ({ S with old := S.lst, fresh := S.fresh.map fun _ => false, fuse := burn S.fuse }, 0) := by unfold St.sync; rw [h, if_neg (by simp), if_neg hf]
theorem DiskAt.ok {w : World} {b g m n : Nat} {S : St} (h : DiskAt w b g m S n) : S.Ok n := by
  obtain ⟨_, _, _, _, _, _, _, _, _, _, _, _, hok, _⟩ := h
  exact hok
theorem DiskAt.gne {w : World} {b g m n : Nat} {S : St} (h : DiskAt w b g m S n) : m ≠ g ∧ b ≠ g ∧ m ≠ b := by
  refine ⟨?_, ?_, h.map_ne⟩
  · obtain ⟨cur, c, D, hB, hG, _, _, hM, _⟩ := h
    obtain ⟨es, clock, hm, _⟩ := hM
    intro e
    subst e
    unfold Bk at hG
    rw [hm] at hG
    cases hG
  · obtain ⟨_, _, _, _, _, _, _, _, _, _, _, hbg, _⟩ := h
    exact hbg
/-- All is kept, and the map is empty. -/
theorem DiskAt.mk_clear {w : World} {b g m n c q : Nat} {S : St} {cur : Array Value} (hB : Bk w b 49 #[.slice (some ⟨g, 0, none⟩) n c, .map (some m), .int .i64 S.fuse, .bool S.dead]) (hG : Bk w g 9 cur)
    (hcur : cur.toList.take n = strs S.old) (hc : n ≤ c) (hM : w.ownsMap (H := Unit) Tryz.prog 3 (plainElem Tryz.prog 9) m q (.map [])) (hq : q ≤ n) (hfr : S.fresh = List.replicate n false) (hbg : b ≠ g) (hok : S.Ok n) (h1 : 1 ≤ n) (h2 : n ≤ 1024) (hf : S.fuse ≤ 9223372036854775807) : DiskAt w b g m S n := by
  have hgd : ∀ i : Nat, S.fresh.getD i false = false := fun i => by
    rw [hfr, List.getD_eq_getElem?_getD, List.getElem?_replicate]
    split <;> rfl
  refine ⟨cur, c, .map [], hB, hG, hcur, hc, hM.mono hq, fun i hi => ⟨by rw [hgd i]; rfl, fun z hz => ?_⟩, fun k hk => ?_, ?_, hbg, hok, h1, h2, hf⟩
  · have := hgd i
    rw [List.getD_eq_getElem?_getD, hz] at this
    cases this
  · cases hk
  · rw [hfr]
    show 0 = _
    rw [List.countP_replicate]
    rfl
theorem fresh_off (l : List Bool) : (l.map fun _ => false) = List.replicate l.length false := by
  refine List.ext_getElem? fun i => ?_
  rw [List.getElem?_map, List.getElem?_replicate]
  by_cases h : i < l.length
  · rw [List.getElem?_eq_getElem h, if_pos h]; rfl
  · rw [List.getElem?_eq_none (by omega), if_neg h]; rfl

set_option maxRecDepth 100000 in
set_option maxHeartbeats 4000000 in
theorem sync_any (w : World) (b g m : Nat) (S : St) (n : Nat) (h : DiskAt w b g m S n) :
    Calls Tryz.prog 14 #[.pointer (some ⟨b, 0, none⟩)] w fun e w' => e = .returned (.int .i64 S.sync.2) ∧ DiskAt w' b g m S.sync.1 n ∧ Keep3 b g m w w' := by
  obtain ⟨k, hk⟩ : ∃ k, S.may 0 = k := ⟨_, rfl⟩
  have HM := Lib.hid (may_is w b g m S n 0 k hk h)
  have HD := Lib.hid h
  by_cases hk0 : k = 0
  · subst hk0
    by_cases hf : S.fuse = 0
    · have HR := Lib.hid (St.sync_die hk hf)
      have HF := Lib.hid hf
      clear hk h hf
      go_enter Tryz.func14, Tryz.ntmps14
      go_wp2_with fail
      (with_reducible refine HM.out.mono ?_)
      rintro e w1 ⟨rfl, hb1⟩
      have H1 := Lib.hid (HD.out.below hb1)
      go_wp2_with fail
      (with_reducible refine (burn_dead w1 b (by rw [H1.out.cells.1, HF.out]) _ H1.out.cells.2.1 H1.out.cells.2.2.2).mono ?_)
      rintro e w2 ⟨rfl, rfl⟩
      go_wp2_with fail
      go_ret
      exact ⟨by rw [HR.out]; rfl, by rw [HR.out]; exact H1.out.die, (Keep3.of_below hb1).trans (Keep3.of_only (only_set _ _ _ _) (.inl rfl))⟩
    · have HR := Lib.hid (St.sync_ok hk hf)
      have hfu := h.fu
      have HF := Lib.hid hf
      have HNE := Lib.hid h.gne
      clear hk h hf
      go_enter Tryz.func14, Tryz.ntmps14
      go_wp2_with fail
      (with_reducible refine HM.out.mono ?_)
      rintro e w1 ⟨rfl, hb1⟩
      have H1 := Lib.hid (HD.out.below hb1)
      go_wp2_with fail
      (with_reducible refine (burn_live w1 b S.fuse HF.out H1.out.cells.1 H1.out.cells.2.2.1 hfu.1 hfu.2.1).mono ?_)
      rintro e w2 ⟨rfl, hw2⟩
      obtain ⟨S2, hS2⟩ : ∃ S2 : St, { S with fuse := burn S.fuse } = S2 := ⟨_, rfl⟩
      have HS2 := Lib.hid hS2
      have H2 : Hid (DiskAt w2 b g m S2 n) := Lib.hid (by rw [hw2, ← hS2]; exact H1.out.fuseTo _ (burn_ge _) (by unfold burn; omega))
      have hK2 : Keep3 b g m w w2 := by rw [hw2]; exact (Keep3.of_below hb1).trans (Keep3.of_only (only_set _ _ _ _) (.inl rfl))
      clear hw2 hb1 hS2
      have H2' := H2.out
      obtain ⟨cur, c, D, hB, hG, hcur, hc, hM, hDS, hkk, hsz, hbg, hok, hn1, hn2, hfs⟩ := H2'
      have HDS := Lib.hid (And.intro hDS (And.intro hkk hsz))
      have HOK := Lib.hid hok
      have HC := Lib.hid hc
      have HN1 := Lib.hid hn1
      have p1 := hB.cell 1
      simp only [List.getElem?_toArray, List.getElem?_cons_succ, List.getElem?_cons_zero] at p1
      have HREL : Hid (∀ w0 : World, w0.ranges Tryz.prog 3 (plainElem Tryz.prog 9) m w2.heap.size n D (Maps.has D) (Maps.size D) → w2.grownBy w0 none → SyncRel w2 w0 b g m w2.heap.size c n S2 D (Maps.has D) (Maps.size D) cur S2.old) :=
        Lib.hid fun w0 hr hg0 => ⟨hr, (hB.below' ⟨hg0.os, hg0.tape, hg0.output, hg0.size, fun k hk => hg0.block k hk (by simp)⟩), (hG.below' ⟨hg0.os, hg0.tape, hg0.output, hg0.size, fun k hk => hg0.block k hk (by simp)⟩), hcur, Mid.start hok hDS, fun _ h => h, Keep3.of_below ⟨hg0.os, hg0.tape, hg0.output, hg0.size, fun k hk => hg0.block k hk (by simp)⟩⟩
      have HGL := Lib.hid hG.lt
      have HBL := Lib.hid hB.lt
      clear hB hG hcur hc hDS hkk hsz hok
      go_wp2_with (at_range; refine wpList_range_own _ rfl _ 47 rfl 3 9 law_int Tryz.underlying47 _ m n D rfl hM ?_; intro w0 hrg0 hg0 hs0; clear hs0)
      go_frame
      go_loopw [4] (fun _ wr => ∃ (left : Lit → Bool) (cnt : Nat) (cu : Array Value) (X : List ByteArray), SyncRel w2 wr b g m w2.heap.size c n S2 D left cnt cu X) (fun _ wr => wr.rangeLeft m w2.heap.size)
      case atStart => exact ⟨_, _, _, _, HREL.out _ hrg0 hg0⟩
      case round =>
        obtain ⟨left, cnt, cu, X, hR⟩ := hrel
        have HRr := Lib.hid hR
        have hrg := hR.rg
        clear hrg0 hg0
        go_wp2_with (first | (at_next; refine wpList_next_ranges_is _ rfl _ rfl 3 9 .i64 law_int Tryz.underlying3 Tryz.underlying9 m w2.heap.size n _ _ _ rfl hrg ?_ ?_) | fail)
        · intro _ hl0
          have HL0 := Lib.hid hl0
          have hM9 := hrg.owns
          have q1 := hR.bk.cell 1
          simp only [List.getElem?_toArray, List.getElem?_cons_succ, List.getElem?_cons_zero] at q1
          clear hl0 hR hrg
          obtain ⟨w5, hcl, hM5, hg5⟩ := clear_own Tryz.underlying47 hM9
          have HX5 := Lib.hid (And.intro hM5 hg5)
          clear hM5 hg5 hM9
          go_wp2_with fail
          go_ret
          have hX := Mid.end_ HOK.out HRr.out.mid HL0.out
          obtain ⟨hM5, hg5⟩ := HX5.out
          have HR2 := HRr.out
          have hcells := HR2.cells
          rw [hX] at hcells
          have hokS : S.sync.1.Ok n := (DiskAt.ok HD.out).sync
          rw [HR.out] at hokS ⊢
          have hfr : (S.fresh.map fun _ => false) = List.replicate n false := by rw [fresh_off, (DiskAt.ok HD.out).lf]
          have hS2 := HS2.out
          refine ⟨rfl, DiskAt.mk_clear (c := c) (cur := cu) ?_ (HR2.row.only hg5 (fun e => HNE.out.1 e.symm)) ?_ HC.out hM5 (Nat.zero_le _) hfr hbg hokS hn1 hn2 ?_, (hK2.trans HR2.keep).trans (Keep3.of_only hg5 (.inr (.inr rfl)))⟩
          · have h3 := HR2.bk.only hg5 (fun e => HNE.out.2.2 e.symm)
            rw [← hS2] at h3
            exact h3
          · rw [← hS2] at hcells
            exact hcells
          · show burn S.fuse ≤ _
            unfold burn; omega
        · intro x cc w3 cnt1 hwx hwc hlx hat hrg1 hlt hg1 hs1 hen
          obtain ⟨j, hj, ej⟩ := HDS.out.2.1 _ (hR.le _ hlx)
          obtain rfl : x = (j : Int) := by injection ej
          have hjl : j < S2.lst.length := by rw [HOK.out.ll]; exact hj
          obtain ⟨hh, hel⟩ := HDS.out.1 j hjl
          have hfj : S2.fresh.getD j false = true := by rw [← hh]; exact hR.le _ hlx
          have hfj2 : S2.fresh[j]? = some true := by
            rw [← hfj, List.getD_eq_getElem?_getD, List.getElem?_eq_getElem (by rw [HOK.out.lf]; exact hj)]; rfl
          have e9 := (hat (.lit (.string []))).symm.trans (hel (.lit (.string [])) hfj2)
          simp only [DataW.lit.injEq, Lit.string.injEq] at e9
          have HCC := Lib.hid (str_of_data e9).symm
          have hj1 : (j : Int) < (n : Int) := by omega
          have hB3 := hR.bk.only hg1 (by have := HBL.out; omega)
          have hG3 := hR.row.only hg1 (by have := HGL.out; omega)
          have q0 := hB3.cell 0
          simp only [List.getElem?_toArray, List.getElem?_cons_zero] at q0
          have hcells := hR.cells
          have hjc : j < cu.size := by
            have h8 : ((cu.toList.take n).length) = n := by rw [hcells]; simp [strs, hR.mid.1]
            rw [List.length_take, Array.length_toList] at h8
            omega
          have qg : w3.cell? ⟨g, j, none⟩ = some (cu[j]'hjc) := by rw [hG3.cell, Array.getElem?_eq_getElem hjc]
          have fg : w3.frozen? ⟨g, j, none⟩ = false := hG3.frozen j
          have HB3 := Lib.hid hB3
          have HG3 := Lib.hid hG3
          have HF3 := Lib.hid hfj
          have HG1 := Lib.hid hg1
          have HRG1 := Lib.hid hrg1
          have HLT := Lib.hid hlt
          generalize hv : (cu[j]'hjc) = vj at qg
          clear hR hh hel hfj hfj2 e9 ej hat hlx hB3 hG3 hcells hg1 hrg1 hrg hlt hs1 hM hv
          go_wp2_with fail
          go_roundw
          case rel =>
            have HR2 := HRr.out
            refine ⟨_, cnt1, cu.setIfInBounds j (.string cc), X.set j cc, ⟨HRG1.out.kept (only_set w3 g j _) (by simp; exact HNE.out.1) (by simp; have := HGL.out; omega), HB3.out.far (p := ⟨g, j, none⟩) HNE.out.2.1 _, HG3.out.set_ j _, ?_, HR2.mid.step HOK.out hj HF3.out HCC.out, fun k hk => HR2.le k ?_, (HR2.keep.only_new (Nat.le_refl _) HG1.out).trans (Keep3.of_only (only_set w3 g j _) (.inr (.inl rfl)))⟩⟩
            · rw [Array.toList_setIfInBounds, List.take_set, HR2.cells]
              unfold strs
              rw [List.map_set]
            · simp at hk
              exact hk.1
          case measure =>
            have h1 := HRr.out.rg.left_eq
            have h2 := (HRG1.out.kept (only_set w3 g j (.string cc)) (by simp; exact HNE.out.1) (by simp; have := HGL.out; omega)).left_eq
            have := HLT.out
            omega
  · have HR := Lib.hid (St.sync_may hk hk0)
    have hk1 : (k == 0) = false := by simp [hk0]
    clear hk hk0 h
    go_enter Tryz.func14, Tryz.ntmps14
    go_wp2_with fail
    (with_reducible refine HM.out.mono ?_)
    rintro e w1 ⟨rfl, hb1⟩
    go_wp2_with fail
    go_ret
    exact ⟨by rw [HR.out]; rfl, by rw [HR.out]; exact HD.out.below hb1, Keep3.of_below hb1⟩
end Go.Proofs.YthjjdjhmaffoeaaGreatDoor
