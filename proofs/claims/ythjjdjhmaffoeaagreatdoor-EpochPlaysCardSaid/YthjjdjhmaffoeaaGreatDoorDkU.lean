/-
  The reference's disk: Sync, Unsynced.
-/
import Derived.Test.YthjjdjhmaffoeaaGreatDoorDkT
namespace Go.Proofs.YthjjdjhmaffoeaaGreatDoor
open Go.RowKit

theorem getElem?_set_if {α : Type} (l : List α) (i j : Nat) (t : α) (hi : i < l.length) : (l.set i t)[j]? = if j = i then some t else l[j]? := by
  by_cases h : j = i
  · subst h; rw [if_pos rfl, List.getElem?_set_self hi]
  · rw [if_neg h, List.getElem?_set_ne (fun e => h e.symm)]
section
variable {w : World} {b go gl gf c1 c2 c3 n : Nat} {S : St}
/-- A sector is made sure of. -/
theorem RefAt.keepOne (h : RefAt w b go gl gf c1 c2 c3 S n) {i : Nat} (hi : i < n) {t : ByteArray} (ht : S.lst[i]? = some t) :
    RefAt ((w.setCell ⟨go, i, none⟩ (.string t)).setCell ⟨gf, i, none⟩ (.bool false)) b go gl gf c1 c2 c3 { S with old := S.old.set i t, fresh := S.fresh.set i false } n := by
  obtain ⟨⟨n1, n2, n3⟩, n4, n5, n6⟩ := h.ne
  have hil : i < S.fresh.length := by rw [h.ok.lf]; exact hi
  have hio : i < S.old.length := by rw [h.ok.lo]; exact hi
  refine ⟨(h.bk.far (p := ⟨go, i, none⟩) n1 _).far (p := ⟨gf, i, none⟩) n3 _, (h.ro.set_ i t).same (set_same _ _ _ _ n5), (h.rl.same (set_same _ _ _ _ n4.symm)).same (set_same _ _ _ _ n6), (h.rf.same (set_same _ _ _ _ n5.symm)).set_ i false, h.ne, ?_, h.n1, h.n2, h.fu⟩
  refine ⟨by simp [h.ok.lo], h.ok.ll, by simp [h.ok.lf], fun j hj => ?_, fun x hx => ?_, h.ok.zl, h.ok.fuse⟩
  · simp only at hj ⊢
    rw [getElem?_set_if _ _ _ _ hil] at hj
    rw [getElem?_set_if _ _ _ _ hio]
    by_cases hji : j = i
    · subst hji; rw [if_pos rfl]; exact ht
    · rw [if_neg hji] at hj ⊢; exact h.ok.same j hj
  · simp only at hx
    rcases List.mem_or_eq_of_mem_set hx with hx | hx
    · exact h.ok.zo x hx
    · rw [hx]; exact h.ok.zl t (List.mem_of_getElem? ht)
end
/-- While all is made sure of: the first k sectors are. -/
def MidS (S : St) (k : Nat) (O : List ByteArray) (Fr : List Bool) : Prop := (∀ i : Nat, O[i]? = if i < k then S.lst[i]? else S.old[i]?) ∧ ∀ i : Nat, Fr[i]? = if i < k then S.fresh[i]?.map fun _ => false else S.fresh[i]?
theorem MidS.start (S : St) : MidS S 0 S.old S.fresh := ⟨fun i => by simp, fun i => by simp⟩
theorem MidS.step {S : St} {k n : Nat} {O : List ByteArray} {Fr : List Bool} (h : MidS S k O Fr) (hok : S.Ok n) (ho : O.length = n) (hf : Fr.length = n) (hk : k < n) {t : ByteArray} (ht : S.lst[k]? = some t) : MidS S (k + 1) (O.set k t) (Fr.set k false) := by
  refine ⟨fun i => ?_, fun i => ?_⟩
  · rw [getElem?_set_if _ _ _ _ (by omega)]
    by_cases hi : i = k
    · subst hi; rw [if_pos rfl, if_pos (by omega), ht]
    · rw [if_neg hi, h.1 i]
      have e : (i < k + 1) = (i < k) := by rw [eq_iff_iff]; omega
      simp only [e]
  · rw [getElem?_set_if _ _ _ _ (by omega)]
    by_cases hi : i = k
    · subst hi
      rw [if_pos rfl, if_pos (by omega), List.getElem?_eq_getElem (by rw [hok.lf]; exact hk)]
      rfl
    · rw [if_neg hi, h.2 i]
      have e : (i < k + 1) = (i < k) := by rw [eq_iff_iff]; omega
      simp only [e]
theorem MidS.end_ {S : St} {n : Nat} {O : List ByteArray} {Fr : List Bool} (h : MidS S n O Fr) (hok : S.Ok n) : O = S.lst ∧ Fr = S.fresh.map fun _ => false := by
  refine ⟨List.ext_getElem? fun i => ?_, List.ext_getElem? fun i => ?_⟩
  · rw [h.1 i]
    split
    · rfl
    · rw [List.getElem?_eq_none (by rw [hok.lo]; omega), List.getElem?_eq_none (by rw [hok.ll]; omega)]
  · rw [h.2 i, List.getElem?_map]
    split
    · rfl
    · rw [List.getElem?_eq_none (by rw [hok.lf]; omega)]
      rfl

set_option maxRecDepth 20000 in
set_option maxHeartbeats 4000000 in
theorem rsync_any (w : World) (b go gl gf c1 c2 c3 : Nat) (S : St) (n : Nat) (h : RefAt w b go gl gf c1 c2 c3 S n) :
    Calls Tryz.prog 15 #[.pointer (some ⟨b, 0, none⟩)] w fun e w' => e = .returned (.int .i64 S.sync.2) ∧ RefAt w' b go gl gf c1 c2 c3 S.sync.1 n ∧ Keep4 b go gl gf w w' := by
  obtain ⟨p0, p1, p2, p3, p4, f3, f4⟩ := h.cells
  have HD := Lib.hid h
  have hn1 := h.n1
  have hn2 := h.n2
  cases hd : S.dead with
  | true =>
    have HR := Lib.hid (St.sync_may (S := S) (k := 7) (by rw [St.may_ok h.ok (by omega) (by omega), hd]; rfl) (by decide))
    rw [hd] at p4
    clear h hd
    go_enter Tryz.func15, Tryz.ntmps15
    go_wp2_with fail
    go_ret
    rw [HR.out]
    exact ⟨rfl, HD.out, Keep4.refl _ _ _ _ _⟩
  | false =>
    have hm : S.may 0 = 0 := by rw [St.may_ok h.ok (by omega) (by omega), hd]; rfl
    rw [hd] at p4
    by_cases hf : S.fuse = 0
    · have HR := Lib.hid (St.sync_die hm hf)
      rw [hf] at p3
      clear h hd hm hf
      go_enter Tryz.func15, Tryz.ntmps15
      go_wp2_with fail
      (with_reducible refine (rburn_dead w b p3 _ p4 f4).mono ?_)
      rintro e w1 ⟨rfl, rfl⟩
      go_wp2_with fail
      go_ret
      rw [HR.out]
      exact ⟨rfl, HD.out.die, Keep4.set_ _ _ _ _ _ _ _ _ (.inl rfl)⟩
    · have HR := Lib.hid (St.sync_ok hm hf)
      have HF := Lib.hid hf
      clear h hd hm hf p3 f3 f4
      go_enter Tryz.func15, Tryz.ntmps15
      go_wp2_with fail
      (with_reducible refine (rburn_live w b go gl gf c1 c2 c3 S n HD.out HF.out).mono ?_)
      rintro e w1 ⟨rfl, hR1, hK1⟩
      clear p0 p1 p2 p4
      obtain ⟨S2, hS2⟩ : ∃ S2 : St, { S with fuse := burn S.fuse } = S2 := ⟨_, rfl⟩
      rw [hS2] at hR1
      have HR1 := Lib.hid hR1
      have HK1 := Lib.hid hK1
      have HS2 := Lib.hid hS2
      clear hR1 hK1 hS2
      go_wp2_with fail
      go_loopw [3] (fun vi wr => ∃ (k : Nat) (O : List ByteArray) (Fr : List Bool), vi = .int .i64 k ∧ k ≤ n ∧ Hid (RefAt wr b go gl gf c1 c2 c3 { S2 with old := O, fresh := Fr } n ∧ MidS S2 k O Fr ∧ Keep4 b go gl gf w1 wr)) (fun vi _ => n - (intOf vi).toNat)
      case atStart => exact ⟨0, S2.old, S2.fresh, rfl, by omega, Lib.hid ⟨HR1.out, MidS.start S2, Keep4.refl _ _ _ _ _⟩⟩
      case round =>
        obtain ⟨k, O, Fr, rfl, hk, HX⟩ := hrel
        have hX := HX.out.1
        obtain ⟨p0, p1, p2, _, _, _, _⟩ := hX.cells
        by_cases hlt : k < n
        · have h4 : (0 : Int) ≤ (k : Int) := by omega
          have h5 : (k : Int) < (n : Int) := by omega
          obtain ⟨t, ht⟩ : ∃ t, S2.lst[k]? = some t := ⟨_, List.getElem?_eq_getElem (by rw [HR1.out.ok.ll]; exact hlt)⟩
          obtain ⟨t9, hto⟩ : ∃ t, O[k]? = some t := ⟨_, List.getElem?_eq_getElem (by rw [hX.ok.lo]; exact hlt)⟩
          obtain ⟨tf, htf⟩ : ∃ t, Fr[k]? = some t := ⟨_, List.getElem?_eq_getElem (by rw [hX.ok.lf]; exact hlt)⟩
          obtain ⟨x1, _⟩ := hX.rl.at_ ht
          obtain ⟨x0, y0⟩ := hX.ro.at_ hto
          have e0 : wr.drew.cell? ⟨b, 0, none⟩ = some (.slice (some ⟨go, 0, none⟩) n c1) := p0
          have e1 : wr.drew.cell? ⟨b, 1, none⟩ = some (.slice (some ⟨gl, 0, none⟩) n c2) := p1
          have e2 : wr.drew.cell? ⟨gl, k, none⟩ = some (.string t) := x1
          have e3 : wr.drew.cell? ⟨go, k, none⟩ = some (.string t9) := x0
          have e4 : wr.drew.frozen? ⟨go, k, none⟩ = false := y0
          have hgd : wr.grownBy (wr.setCell ⟨go, k, none⟩ (.string t)).drew (some go) := only_trans (only_set wr go k (.string t)) (only_drew _ go)
          have hbne : ∀ i : Nat, some (⟨b, i, none⟩ : Addr).block ≠ some go := fun _ e => hX.ne.1.1 (Option.some.inj e)
          have d0 : (wr.drew.setCell ⟨go, k, none⟩ (.string t)).cell? ⟨b, 0, none⟩ = some (.slice (some ⟨go, 0, none⟩) n c1) := hgd.cell p0 (hbne 0)
          have d1 : (wr.drew.setCell ⟨go, k, none⟩ (.string t)).cell? ⟨b, 1, none⟩ = some (.slice (some ⟨gl, 0, none⟩) n c2) := hgd.cell p1 (hbne 1)
          have d2 : (wr.drew.setCell ⟨go, k, none⟩ (.string t)).cell? ⟨gl, k, none⟩ = some (.string t) := hgd.cell x1 (fun e => hX.ne.2.1 (Option.some.inj e).symm)
          have s2 : (wr.setCell ⟨go, k, none⟩ (.string t)).drew.cell? ⟨b, 2, none⟩ = some (.slice (some ⟨gf, 0, none⟩) n c3) := hgd.cell p2 (hbne 2)
          obtain ⟨s3, s4⟩ := (hX.rf.same (w' := (wr.setCell ⟨go, k, none⟩ (.string t)).drew) (hgd.block gf hX.rf.lt (fun e => hX.ne.2.2.1 (Option.some.inj e).symm))).at_ htf
          have HT := Lib.hid ht
          clear hX ht hto htf p1 x0 x1 y0 p2 hgd hbne
          go_wp2_with fail
          go_region_held3 (fun w' => w'.cell? ⟨b, 0, none⟩ = some (.slice (some ⟨go, 0, none⟩) n c1) ∧ w'.cell? ⟨b, 1, none⟩ = some (.slice (some ⟨gl, 0, none⟩) n c2) ∧ w'.cell? ⟨gl, k, none⟩ = some (.string t)) (first | exact ⟨e0, e1, e2⟩ | exact ⟨d0, d1, d2⟩) (first | fail)
          clear e0 e1 e2 e3 e4 d0 d1 d2 p0
          go_wp2_with fail
          go_roundw
          case rel =>
            obtain ⟨hX, hMd, hK⟩ := HX.out
            have hP := hX.keepOne hlt HT.out
            have hQ : Keep4 b go gl gf wr ((wr.setCell ⟨go, k, none⟩ (.string t)).setCell ⟨gf, k, none⟩ (.bool false)) := (Keep4.set_ b go gl gf wr go k (.string t) (.inr (.inl rfl))).trans (Keep4.set_ b go gl gf _ gf k (.bool false) (.inr (.inr (.inr rfl))))
            refine ⟨k + 1, O.set k t, Fr.set k false, congrArg _ (by omega), by omega, Lib.hid ⟨?_, hMd.step HR1.out.ok hX.ok.lo hX.ok.lf hlt HT.out, hK.trans hQ⟩⟩
            exact hP.same fun _ _ => rfl
          case measure => simp [intOf]; omega
        · have h5 : ¬ (k : Int) < (n : Int) := by omega
          obtain rfl : k = n := by omega
          clear hX p1 p2
          go_wp2_with fail
          go_ret
          obtain ⟨hX, hMd, hK⟩ := HX.out
          obtain ⟨e1, e2⟩ := hMd.end_ HR1.out.ok
          rw [HR.out]
          subst e1 e2
          have hs := HS2.out
          subst hs
          exact ⟨rfl, hX, HK1.out.trans hK⟩

theorem uns_snoc : ∀ (l : List Bool) (c : Bool) (j : Nat), unsF (l ++ [c]) j = unsF l j ++ if c then [j + l.length] else []
  | [], c, j => by cases c <;> simp [unsF]
  | a :: l, c, j => by
    have ih := uns_snoc l c (j + 1)
    rw [List.cons_append]
    unfold unsF
    rw [ih, List.length_cons, show j + 1 + l.length = j + (l.length + 1) by omega]
    cases a <;> simp
/-- Those of the first k that are not synced, as numbers. -/
def unsK (fs : List Bool) (k : Nat) : List Value := ((unsF (fs.take k) 0).map fun i : Nat => (i : Int)).map (Value.int .i64)
theorem unsK_step {fs : List Bool} {k : Nat} {c : Bool} (h : fs[k]? = some c) : unsK fs (k + 1) = unsK fs k ++ if c then [Value.int .i64 (k : Int)] else [] := by
  unfold unsK
  rw [List.take_add_one, h]
  have hl : (fs.take k).length = k := by rw [List.length_take]; have := (List.getElem?_eq_some_iff.1 h).1; omega
  rw [show (some c).toList = [c] from rfl, uns_snoc, hl, Nat.zero_add]
  cases c <;> simp
theorem unsK_len (fs : List Bool) (k : Nat) : (unsK fs k).length ≤ k := by
  unfold unsK
  rw [List.length_map, List.length_map, uns_len]
  exact Nat.le_trans List.countP_le_length (by rw [List.length_take]; omega)
theorem el_intK : El Tryz.prog 69 3 1 8 := El.mk_ (z := .int .i64 0) Tryz.underlying69 (by kernel_rfl) (by decide) (by rfl)
set_option maxRecDepth 20000 in
set_option maxHeartbeats 4000000 in
theorem runs_any (w : World) (b go gl gf c1 c2 c3 : Nat) (S : St) (n : Nat) (h : RefAt w b go gl gf c1 c2 c3 S n) :
    Calls Tryz.prog 37 #[.pointer (some ⟨b, 0, none⟩)] w (RetS w (unsI S).length ((unsI S).map (Value.int .i64))) := by
  have HD := Lib.hid h
  have hn2 := h.n2
  have HLF := Lib.hid h.ok.lf
  obtain ⟨fs, hfs⟩ : ∃ fs, S.fresh = fs := ⟨_, rfl⟩
  have HFS := Lib.hid hfs
  clear h hfs
  go_enter Tryz.func37, Tryz.ntmps37
  go_wp2_with fail
  go_loopw [3, 4] (fun v vi wr => ∃ k : Nat, vi = .int .i64 k ∧ k ≤ n ∧ Hid (wr.ownsRow w.heap.size 3 1 v (unsK fs k).length (unsK fs k)) ∧ Hid (Below w.heap.size w wr)) (fun _ vi _ => n - (intOf vi).toNat)
  case atStart => exact ⟨0, rfl, by omega, Lib.hid (World.ownsRow_nil _ _ _ _), Lib.hid (Below.refl _ _)⟩
  case round =>
    obtain ⟨k, rfl, hk, HW, HB⟩ := hrel
    have hX := HD.out.below HB.out
    obtain ⟨_, _, p2, _⟩ := hX.cells
    by_cases hlt : k < n
    · have h4 : (0 : Int) ≤ (k : Int) := by omega
      have h5 : (k : Int) < (n : Int) := by omega
      obtain ⟨tf, htf⟩ : ∃ t, S.fresh[k]? = some t := ⟨_, List.getElem?_eq_getElem (by rw [HLF.out]; exact hlt)⟩
      obtain ⟨x1, _⟩ := hX.rf.at_ htf
      rw [HFS.out] at htf
      have hst := unsK_step htf
      have hul := unsK_len fs k
      have HST := Lib.hid hst
      have HSZ := Lib.hid HB.out.size
      clear hX htf hst
      cases tf with
      | true =>
        go_wp2_with (at_builtin; (refine wpList_append_new wr rfl (.tmp 21) (.tmp 23) 69 rfl w.heap.size 3 1 8 el_intK _ _ _ HW.out rfl #[.int .i64 (k : Int)] rfl rfl (by intro u hu; simp at hu; subst hu; rfl) (by unfold maxLen; omega) (by omega) HSZ.out ?_); intro v2 w2 hO2 hb2; have HO2 := Lib.hid hO2; have HB2 := Lib.hid (HB.out.trans hb2); clear hO2 hb2)
        go_roundw
        case rel =>
          refine ⟨k + 1, congrArg _ (by omega), by omega, Lib.hid ?_, HB2⟩
          rw [HST.out]
          have := HO2.out
          simpa using this
        case measure => simp [intOf]; omega
      | false =>
        go_wp2_with fail
        go_roundw
        case rel =>
          refine ⟨k + 1, congrArg _ (by omega), by omega, Lib.hid ?_, HB⟩
          rw [HST.out]
          have := HW.out
          simpa using this
        case measure => simp [intOf]; omega
    · have h5 : ¬ (k : Int) < (n : Int) := by omega
      obtain rfl : k = n := by omega
      clear hX
      go_wp2_with fail
      go_ret
      have e : unsK fs k = (unsI S).map (Value.int .i64) := by
        unfold unsK unsI St.uns
        rw [List.take_of_length_le (by rw [← HFS.out, HLF.out]; omega), HFS.out]
      have hw := HW.out
      rw [e] at hw
      rw [show (unsI S).length = ((unsI S).map (Value.int .i64)).length by rw [List.length_map]]
      exact RetS.own hw HB.out (Nat.le_refl _)
end Go.Proofs.YthjjdjhmaffoeaaGreatDoor
