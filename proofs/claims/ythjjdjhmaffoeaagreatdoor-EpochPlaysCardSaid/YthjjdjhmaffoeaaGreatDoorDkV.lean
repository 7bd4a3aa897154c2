/-
  The reference's disk: Crash.
-/
import Derived.Test.YthjjdjhmaffoeaaGreatDoorDkU
namespace Go.Proofs.YthjjdjhmaffoeaaGreatDoor
open Go.RowKit

section
variable {w : World} {b go gl gf c1 c2 c3 n : Nat} {S : St}
/-- A sector that is not synced is kept as it was written. -/
theorem RefAt.oldTo (h : RefAt w b go gl gf c1 c2 c3 S n) {i : Nat} (hi : i < n) (hf : S.fresh[i]? = some true) (t : ByteArray) (ht : t.size = 256) :
    RefAt (w.setCell ⟨go, i, none⟩ (.string t)) b go gl gf c1 c2 c3 { S with old := S.old.set i t } n := by
  obtain ⟨⟨n1, n2, n3⟩, n4, n5, n6⟩ := h.ne
  have hio : i < S.old.length := by rw [h.ok.lo]; exact hi
  refine ⟨h.bk.far (p := ⟨go, i, none⟩) n1 _, h.ro.set_ i t, h.rl.same (set_same _ _ _ _ n4.symm), h.rf.same (set_same _ _ _ _ n5.symm), h.ne, ?_, h.n1, h.n2, h.fu⟩
  refine ⟨by simp [h.ok.lo], h.ok.ll, h.ok.lf, fun j hj => ?_, fun x hx => ?_, h.ok.zl, h.ok.fuse⟩
  · simp only at hj ⊢
    rw [getElem?_set_if _ _ _ _ hio]
    by_cases hji : j = i
    · subst hji; rw [hf] at hj; cases hj
    · rw [if_neg hji]; exact h.ok.same j hj
  · simp only at hx
    rcases List.mem_or_eq_of_mem_set hx with hx | hx
    · exact h.ok.zo x hx
    · rw [hx]; exact ht
/-- A sector is read back. -/
theorem RefAt.backOne (h : RefAt w b go gl gf c1 c2 c3 S n) {i : Nat} (hi : i < n) {t : ByteArray} (ht : S.old[i]? = some t) :
    RefAt ((w.setCell ⟨gl, i, none⟩ (.string t)).setCell ⟨gf, i, none⟩ (.bool false)) b go gl gf c1 c2 c3 { S with lst := S.lst.set i t, fresh := S.fresh.set i false } n := by
  obtain ⟨⟨n1, n2, n3⟩, n4, n5, n6⟩ := h.ne
  have hil : i < S.fresh.length := by rw [h.ok.lf]; exact hi
  have hio : i < S.lst.length := by rw [h.ok.ll]; exact hi
  refine ⟨(h.bk.far (p := ⟨gl, i, none⟩) n2 _).far (p := ⟨gf, i, none⟩) n3 _, (h.ro.same (set_same _ _ _ _ n4)).same (set_same _ _ _ _ n5), (h.rl.set_ i t).same (set_same _ _ _ _ n6), (h.rf.same (set_same _ _ _ _ n6.symm)).set_ i false, h.ne, ?_, h.n1, h.n2, h.fu⟩
  refine ⟨h.ok.lo, by simp [h.ok.ll], by simp [h.ok.lf], fun j hj => ?_, h.ok.zo, fun x hx => ?_, h.ok.fuse⟩
  · simp only at hj ⊢
    rw [getElem?_set_if _ _ _ _ hil] at hj
    rw [getElem?_set_if _ _ _ _ hio]
    by_cases hji : j = i
    · subst hji; rw [if_pos rfl]; exact ht.symm
    · rw [if_neg hji] at hj ⊢; exact h.ok.same j hj
  · simp only at hx
    rcases List.mem_or_eq_of_mem_set hx with hx | hx
    · exact h.ok.zl x hx
    · rw [hx]; exact h.ok.zo t (List.mem_of_getElem? ht)
theorem RefAt.wake (h : RefAt w b go gl gf c1 c2 c3 S n) : RefAt ((w.setCell ⟨b, 3, none⟩ (.int .i64 (-1))).setCell ⟨b, 4, none⟩ (.bool false)) b go gl gf c1 c2 c3 { S with fuse := -1, dead := false } n := by
  obtain ⟨⟨n1, n2, n3⟩, _⟩ := h.ne
  have h4 := (h.bk.set_ 3 (.int .i64 (-1))).set_ 4 (.bool false)
  simp only [List.setIfInBounds_toArray, List.set_cons_succ, List.set_cons_zero] at h4
  exact ⟨h4, (h.ro.same (set_same _ _ _ _ n1.symm)).same (set_same _ _ _ _ n1.symm), (h.rl.same (set_same _ _ _ _ n2.symm)).same (set_same _ _ _ _ n2.symm), (h.rf.same (set_same _ _ _ _ n3.symm)).same (set_same _ _ _ _ n3.symm), h.ne, ⟨h.ok.lo, h.ok.ll, h.ok.lf, h.ok.same, h.ok.zo, h.ok.zl, by simp⟩, h.n1, h.n2, by simp⟩
end
/-- While all is read back: the first k sectors are. -/
def MidR (S : St) (k : Nat) (Ls : List ByteArray) (Fr : List Bool) : Prop := (∀ i : Nat, Ls[i]? = if i < k then S.old[i]? else S.lst[i]?) ∧ ∀ i : Nat, Fr[i]? = if i < k then S.fresh[i]?.map fun _ => false else S.fresh[i]?
theorem MidR.start (S : St) : MidR S 0 S.lst S.fresh := ⟨fun i => by simp, fun i => by simp⟩
theorem MidR.step {S : St} {k n : Nat} {O : List ByteArray} {Fr : List Bool} (h : MidR S k O Fr) (hok : S.Ok n) (ho : O.length = n) (hf : Fr.length = n) (hk : k < n) {t : ByteArray} (ht : S.old[k]? = some t) : MidR S (k + 1) (O.set k t) (Fr.set k false) := by
  refine ⟨fun i => ?_, fun i => ?_⟩
  · rw [getElem?_set_if _ _ _ _ (by omega)]
    by_cases hi : i = k
    · subst hi; rw [if_pos rfl, if_pos (by omega), ht]
    · rw [if_neg hi, h.1 i]
      have e : (i < k + 1) = (i < k) := by rw [eq_iff_iff]; omega
      simp only [e]
  · rw [getElem?_set_if _ _ _ _ (by omega)]
    by_cases hi : i = k
    · subst hi
      rw [if_pos rfl, if_pos (by omega), List.getElem?_eq_getElem (by rw [hok.lf]; exact hk)]
      rfl
    · rw [if_neg hi, h.2 i]
      have e : (i < k + 1) = (i < k) := by rw [eq_iff_iff]; omega
      simp only [e]
theorem MidR.end_ {S : St} {n : Nat} {O : List ByteArray} {Fr : List Bool} (h : MidR S n O Fr) (hok : S.Ok n) : O = S.old ∧ Fr = S.fresh.map fun _ => false := by
  refine ⟨List.ext_getElem? fun i => ?_, List.ext_getElem? fun i => ?_⟩
  · rw [h.1 i]
    split
    · rfl
    · rw [List.getElem?_eq_none (by rw [hok.ll]; omega), List.getElem?_eq_none (by rw [hok.lo]; omega)]
  · rw [h.2 i, List.getElem?_map]
    split
    · rfl
    · rw [List.getElem?_eq_none (by rw [hok.lf]; omega)]
      rfl

set_option maxRecDepth 100000 in
set_option maxHeartbeats 8000000 in
theorem rcrash_any (w : World) (b go gl gf c1 c2 c3 : Nat) (S : St) (n : Nat) (h : RefAt w b go gl gf c1 c2 c3 S n) (x : Int) :
    Calls Tryz.prog 17 #[.pointer (some ⟨b, 0, none⟩), .int .i64 x] w fun e w' => e = .returned (.tuple #[]) ∧ RefAt w' b go gl gf c1 c2 c3 (S.crash (bitOf x)) n ∧ Keep4 b go gl gf w w' := by
  have HD := Lib.hid h
  have hn2 := h.n2
  have HU := Lib.hid (runs_any w b go gl gf c1 c2 c3 S n h)
  obtain ⟨L, hL⟩ : ∃ L, (unsI S).length = L := ⟨_, rfl⟩
  have HLL := Lib.hid hL
  rw [hL] at HU
  have hLn : L ≤ n := by
    rw [← hL]
    unfold unsI St.uns
    rw [List.length_map, uns_len]
    exact Nat.le_trans List.countP_le_length (Nat.le_of_eq h.ok.lf)
  have HOK := Lib.hid h.ok
  clear h hL
  go_enter Tryz.func17, Tryz.ntmps17
  go_wp2_with fail
  (with_reducible refine HU.out.mono ?_)
  rintro e w1 ⟨A, cc, rfl, hc1, hc2, hrd, hfr, hb1⟩
  have H1 := Lib.hid (HD.out.below hb1)
  have HRD := Lib.hid hrd
  have HK1 : Hid (Keep4 b go gl gf w w1) := Lib.hid (Keep4.of_below hb1)
  have HFR : Hid (∀ ad, A = some ad → ad.block ≠ b ∧ ad.block ≠ go ∧ ad.block ≠ gl ∧ ad.block ≠ gf) := Lib.hid fun ad hA => by
    have h1 := hfr ad hA
    have h2 := HD.out.lt b (by simp)
    have h3 := HD.out.lt go (by simp)
    have h4 := HD.out.lt gl (by simp)
    have h5 := HD.out.lt gf (by simp)
    omega
  clear hc1 hc2 hrd hfr hb1
  go_wp2_with fail
  go_loopw [5] (fun vi wr => ∃ (k : Nat) (X : List ByteArray), vi = .int .i64 k ∧ k ≤ L ∧ Hid (RefAt wr b go gl gf c1 c2 c3 { S with old := X } n ∧ MidC S n (bitOf x) k X ∧ Rd wr A ((unsI S).map (Value.int .i64)) ∧ Keep4 b go gl gf w1 wr)) (fun vi _ => L - (intOf vi).toNat)
  case atStart => exact ⟨0, S.old, rfl, by omega, Lib.hid ⟨H1.out, MidC.start HOK.out _, HRD.out, Keep4.refl _ _ _ _ _⟩⟩
  case round =>
    obtain ⟨k, X, rfl, hkL, HX⟩ := hrel
    by_cases hkl : k < L
    · have hk1 : (k : Int) < (L : Int) := by omega
      have hk0 : (0 : Int) ≤ (k : Int) := by omega
      have hX := HX.out.1
      obtain ⟨ab, ao, eA, hcA⟩ := HX.out.2.2.1.at_ (k := k) (by rw [List.length_map, HLL.out]; exact hkl)
      subst eA
      have hut : ∃ j : Nat, S.uns[k]? = some j ∧ (unsI S)[k]? = some (j : Int) := by
        have h1 : k < S.uns.length := by have := HLL.out; unfold unsI at this; rw [List.length_map] at this; omega
        refine ⟨S.uns[k], List.getElem?_eq_getElem h1, ?_⟩
        unfold unsI
        rw [List.getElem?_map, List.getElem?_eq_getElem h1]
        rfl
      obtain ⟨j, hj1, hj2⟩ := hut
      have hcA2 : wr.cell? ⟨ab, ao + k, none⟩ = some (.int .i64 (j : Int)) := by
        rw [hcA]
        have h3 : ((unsI S).map (Value.int .i64))[k]? = some (.int .i64 (j : Int)) := by rw [List.getElem?_map, hj2]; rfl
        rw [List.getElem?_eq_getElem (by rw [List.length_map, HLL.out]; exact hkl)] at h3
        exact h3
      have HJ := Lib.hid hj1
      have hft : S.fresh[j]? = some true := by
        obtain ⟨j', e, h1, h2⟩ := uns_get S.fresh 0 k j hj1
        obtain rfl : j = j' := by omega
        exact h1
      have hjn : j < n := by have := (List.getElem?_eq_some_iff.1 hft).1; rw [HOK.out.lf] at this; exact this
      have hjn1 : (j : Int) < (n : Int) := by omega
      have hjn0 : (0 : Int) ≤ (j : Int) := by omega
      obtain ⟨t, ht⟩ : ∃ t, S.lst[j]? = some t := ⟨_, List.getElem?_eq_getElem (by rw [HOK.out.ll]; exact hjn)⟩
      obtain ⟨t9, hto⟩ : ∃ t, X[j]? = some t := ⟨_, List.getElem?_eq_getElem (by rw [hX.ok.lo]; exact hjn)⟩
      obtain ⟨x1, _⟩ := hX.rl.at_ ht
      obtain ⟨x0, y0⟩ := hX.ro.at_ hto
      obtain ⟨p0, p1, _, _, _, _, _⟩ := hX.cells
      have HABG : Hid (ab ≠ b ∧ ab ≠ go ∧ ab ≠ gl ∧ ab ≠ gf) := Lib.hid (HFR.out _ rfl)
      have e0 : wr.drew.cell? ⟨b, 0, none⟩ = some (.slice (some ⟨go, 0, none⟩) n c1) := p0
      have e1 : wr.drew.cell? ⟨b, 1, none⟩ = some (.slice (some ⟨gl, 0, none⟩) n c2) := p1
      have e2 : wr.drew.cell? ⟨gl, j, none⟩ = some (.string t) := x1
      have e3 : wr.drew.cell? ⟨go, j, none⟩ = some (.string t9) := x0
      have e4 : wr.drew.frozen? ⟨go, j, none⟩ = false := y0
      have e5 : wr.drew.cell? ⟨ab, ao + k, none⟩ = some (.int .i64 (j : Int)) := hcA2
      have hgd : wr.grownBy (wr.setCell ⟨go, j, none⟩ (.string t)).drew (some go) := only_trans (only_set wr go j (.string t)) (only_drew _ go)
      have d0 : (wr.drew.setCell ⟨go, j, none⟩ (.string t)).cell? ⟨b, 0, none⟩ = some (.slice (some ⟨go, 0, none⟩) n c1) := hgd.cell p0 (fun e => hX.ne.1.1 (Option.some.inj e))
      have d1 : (wr.drew.setCell ⟨go, j, none⟩ (.string t)).cell? ⟨b, 1, none⟩ = some (.slice (some ⟨gl, 0, none⟩) n c2) := hgd.cell p1 (fun e => hX.ne.1.1 (Option.some.inj e))
      have d2 : (wr.drew.setCell ⟨go, j, none⟩ (.string t)).cell? ⟨gl, j, none⟩ = some (.string t) := hgd.cell x1 (fun e => hX.ne.2.1 (Option.some.inj e).symm)
      have d5 : (wr.drew.setCell ⟨go, j, none⟩ (.string t)).cell? ⟨ab, ao + k, none⟩ = some (.int .i64 (j : Int)) := hgd.cell hcA2 (fun e => HABG.out.2.1 (Option.some.inj e))
      have HT := Lib.hid ht
      have HFT := Lib.hid hft
      have HTL := Lib.hid (show S.lst.getD j ⟨#[]⟩ = t by rw [List.getD_eq_getElem?_getD, ht]; rfl)
      clear hX ht hto hft hj1 hj2 hcA x0 x1 y0 p0 p1 hgd
      go_wp2_with fail
      · go_region_held3 (fun w' => w'.cell? ⟨b, 0, none⟩ = some (.slice (some ⟨go, 0, none⟩) n c1) ∧ w'.cell? ⟨b, 1, none⟩ = some (.slice (some ⟨gl, 0, none⟩) n c2) ∧ w'.cell? ⟨gl, j, none⟩ = some (.string t) ∧ w'.cell? ⟨ab, ao + k, none⟩ = some (.int .i64 (j : Int))) (first | exact ⟨e0, e1, e2, e5⟩ | exact ⟨d0, d1, d2, d5⟩) (first | fail)
        have HB := Lib.hid (by assumption : (bits .and .i64 (x / 2 ^ (k % 62)) 1 == 1) = true)
        clear e0 e1 e2 e3 e4 e5 d0 d1 d2 d5
        go_wp2_with fail
        go_roundw
        case rel =>
          obtain ⟨hX, hMd, hrd, hK⟩ := HX.out
          have hm := hMd.step HOK.out HJ.out
          rw [show bitOf x k = true from HB.out, if_pos rfl, HTL.out] at hm
          have hP := hX.oldTo hjn HFT.out t (HOK.out.zl t (List.mem_of_getElem? HT.out))
          exact ⟨k + 1, X.set j t, congrArg _ (by omega), by omega, Lib.hid ⟨hP.same fun _ _ => rfl, hm, hrd.only (only_trans (only_set wr go j (.string t)) (only_drew _ go)) (fun _ ad hA => by cases hA; exact HABG.out.2.1), hK.trans (Keep4.set_ b go gl gf wr go j (.string t) (.inr (.inl rfl)))⟩⟩
        case measure => simp [intOf]; omega
      · have HB := Lib.hid (by assumption : (bits .and .i64 (x / 2 ^ (k % 62)) 1 == 1) = false)
        go_roundw
        case rel =>
          obtain ⟨hX, hMd, hrd, hK⟩ := HX.out
          have hm := hMd.step HOK.out HJ.out
          rw [show bitOf x k = false from HB.out, if_neg (by simp)] at hm
          exact ⟨k + 1, X, congrArg _ (by omega), by omega, Lib.hid ⟨hX, hm, hrd, hK⟩⟩
        case measure => simp [intOf]; omega
    · have hk1 : ¬ (k : Int) < (L : Int) := by omega
      obtain ⟨hX, hMd, _, hK⟩ := HX.out
      have hXo := hMd.end_ HOK.out (by have h1 := HLL.out; unfold unsI at h1; rw [List.length_map] at h1; omega)
      obtain ⟨S3, hS3⟩ : ∃ S3 : St, { S with old := X } = S3 := ⟨_, rfl⟩
      rw [hS3] at hX
      have HS3 := Lib.hid hS3
      have HXO := Lib.hid hXo
      have H3 := Lib.hid hX
      have HK3 := Lib.hid hK
      clear hX hMd hK hXo hS3 HX
      generalize wr = w3 at *
      go_wp2_with fail
      go_loopw [6] (fun vi wr => ∃ (k : Nat) (Ls : List ByteArray) (Fr : List Bool), vi = .int .i64 k ∧ k ≤ n ∧ Hid (RefAt wr b go gl gf c1 c2 c3 { S3 with lst := Ls, fresh := Fr } n ∧ MidR S3 k Ls Fr ∧ Keep4 b go gl gf w3 wr)) (fun vi _ => n - (intOf vi).toNat)
      case atStart => exact ⟨0, S3.lst, S3.fresh, rfl, by omega, Lib.hid ⟨H3.out, MidR.start S3, Keep4.refl _ _ _ _ _⟩⟩
      case round =>
        obtain ⟨i, O, Fr, rfl, hi, HY⟩ := hrel
        have hX := HY.out.1
        obtain ⟨p0, p1, p2, _, _, _, _⟩ := hX.cells
        by_cases hlt : i < n
        · have h4 : (0 : Int) ≤ (i : Int) := by omega
          have h5 : (i : Int) < (n : Int) := by omega
          obtain ⟨t, ht⟩ : ∃ t, S3.old[i]? = some t := ⟨_, List.getElem?_eq_getElem (by rw [H3.out.ok.lo]; exact hlt)⟩
          obtain ⟨t9, hto⟩ : ∃ t, O[i]? = some t := ⟨_, List.getElem?_eq_getElem (by rw [hX.ok.ll]; exact hlt)⟩
          obtain ⟨tf, htf⟩ : ∃ t, Fr[i]? = some t := ⟨_, List.getElem?_eq_getElem (by rw [hX.ok.lf]; exact hlt)⟩
          obtain ⟨x1, _⟩ := hX.ro.at_ ht
          obtain ⟨x0, y0⟩ := hX.rl.at_ hto
          have e0 : wr.drew.cell? ⟨b, 0, none⟩ = some (.slice (some ⟨go, 0, none⟩) n c1) := p0
          have e1 : wr.drew.cell? ⟨b, 1, none⟩ = some (.slice (some ⟨gl, 0, none⟩) n c2) := p1
          have e2 : wr.drew.cell? ⟨go, i, none⟩ = some (.string t) := x1
          have e3 : wr.drew.cell? ⟨gl, i, none⟩ = some (.string t9) := x0
          have e4 : wr.drew.frozen? ⟨gl, i, none⟩ = false := y0
          have hgd : wr.grownBy (wr.setCell ⟨gl, i, none⟩ (.string t)).drew (some gl) := only_trans (only_set wr gl i (.string t)) (only_drew _ gl)
          have hbne : ∀ i : Nat, some (⟨b, i, none⟩ : Addr).block ≠ some gl := fun _ e => hX.ne.1.2.1 (Option.some.inj e)
          have d0 : (wr.drew.setCell ⟨gl, i, none⟩ (.string t)).cell? ⟨b, 0, none⟩ = some (.slice (some ⟨go, 0, none⟩) n c1) := hgd.cell p0 (hbne 0)
          have d1 : (wr.drew.setCell ⟨gl, i, none⟩ (.string t)).cell? ⟨b, 1, none⟩ = some (.slice (some ⟨gl, 0, none⟩) n c2) := hgd.cell p1 (hbne 1)
          have d2 : (wr.drew.setCell ⟨gl, i, none⟩ (.string t)).cell? ⟨go, i, none⟩ = some (.string t) := hgd.cell x1 (fun e => hX.ne.2.1 (Option.some.inj e))
          have s2 : (wr.setCell ⟨gl, i, none⟩ (.string t)).drew.cell? ⟨b, 2, none⟩ = some (.slice (some ⟨gf, 0, none⟩) n c3) := hgd.cell p2 (hbne 2)
          obtain ⟨s3, s4⟩ := (hX.rf.same (w' := (wr.setCell ⟨gl, i, none⟩ (.string t)).drew) (hgd.block gf hX.rf.lt (fun e => hX.ne.2.2.2 (Option.some.inj e).symm))).at_ htf
          have HT := Lib.hid ht
          clear hX ht hto htf p1 x0 x1 y0 p2 hgd hbne
          go_wp2_with fail
          go_region_held3 (fun w' => w'.cell? ⟨b, 0, none⟩ = some (.slice (some ⟨go, 0, none⟩) n c1) ∧ w'.cell? ⟨b, 1, none⟩ = some (.slice (some ⟨gl, 0, none⟩) n c2) ∧ w'.cell? ⟨go, i, none⟩ = some (.string t)) (first | exact ⟨e0, e1, e2⟩ | exact ⟨d0, d1, d2⟩) (first | fail)
          clear e0 e1 e2 e3 e4 d0 d1 d2 p0
          go_wp2_with fail
          go_roundw
          case rel =>
            obtain ⟨hX, hMd, hK⟩ := HY.out
            have hP := hX.backOne hlt HT.out
            have hQ : Keep4 b go gl gf wr ((wr.setCell ⟨gl, i, none⟩ (.string t)).setCell ⟨gf, i, none⟩ (.bool false)) := (Keep4.set_ b go gl gf wr gl i (.string t) (.inr (.inr (.inl rfl)))).trans (Keep4.set_ b go gl gf _ gf i (.bool false) (.inr (.inr (.inr rfl))))
            exact ⟨i + 1, O.set i t, Fr.set i false, congrArg _ (by omega), by omega, Lib.hid ⟨hP.same fun _ _ => rfl, hMd.step H3.out.ok hX.ok.ll hX.ok.lf hlt HT.out, hK.trans hQ⟩⟩
          case measure => simp [intOf]; omega
        · have h5 : ¬ (i : Int) < (n : Int) := by omega
          obtain rfl : i = n := by omega
          obtain ⟨_, _, _, p3, p4, f3, f4⟩ := hX.cells
          clear hX p1 p2
          go_wp2_with fail
          go_end0
          obtain ⟨hX, hMd, hK⟩ := HY.out
          obtain ⟨e1, e2⟩ := hMd.end_ H3.out.ok
          have hW := hX.wake
          have hs := HS3.out
          have hxo := HXO.out
          subst hs
          have e1' : O = X := e1
          have e2' : Fr = S.fresh.map fun _ => false := e2
          have hfin : ({ ({ ({ S with old := X } : St) with lst := O, fresh := Fr } : St) with fuse := -1, dead := false } : St) = S.crash (bitOf x) := by
            rw [e1', e2', hxo]
            rfl
          have hW2 : RefAt ((wr.setCell ⟨b, 3, none⟩ (.int .i64 (-1))).setCell ⟨b, 4, none⟩ (.bool false)) b go gl gf c1 c2 c3 (S.crash (bitOf x)) i := by
            rw [← hfin]; exact hW
          exact ⟨rfl, hW2, (HK1.out.trans (HK3.out.trans hK)).trans ((Keep4.set_ b go gl gf wr b 3 (.int .i64 (-1)) (.inl rfl)).trans (Keep4.set_ b go gl gf _ b 4 (.bool false) (.inl rfl)))⟩
end Go.Proofs.YthjjdjhmaffoeaaGreatDoor
