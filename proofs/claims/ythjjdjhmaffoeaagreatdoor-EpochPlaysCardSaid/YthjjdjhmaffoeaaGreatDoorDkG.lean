/-
  The code's disk: Write.
-/
import Derived.Test.YthjjdjhmaffoeaaGreatDoorDkF
import Derived.Test.YthjjdjhmaffoeaaGreatDoorShelf
import Derived.Deep.RegionWith
import Derived.Deep.DeepMust
import Derived.Deep.RegionHeld3
namespace Go.Proofs.YthjjdjhmaffoeaaGreatDoor
open Go.RowKit Go.Maps

/-- What a deed on a disk leaves as it was: all old blocks but the disk's own. -/
def Keep3 (b g m : Nat) (w w' : World) : Prop := w'.os = w.os ∧ w'.tape = w.tape ∧ w'.output = w.output ∧ w.heap.size ≤ w'.heap.size ∧ ∀ k, k < w.heap.size → k ≠ b → k ≠ g → k ≠ m → w'.heap[k]? = w.heap[k]?
theorem Keep3.of_below {b g m : Nat} {w w' : World} (h : Below w.heap.size w w') : Keep3 b g m w w' := ⟨h.os, h.tape, h.output, h.size, fun k hk _ _ _ => h.block k hk⟩
theorem Keep3.trans {b g m : Nat} {w w' w'' : World} (h : Keep3 b g m w w') (h2 : Keep3 b g m w' w'') : Keep3 b g m w w'' :=
  ⟨h2.1.trans h.1, h2.2.1.trans h.2.1, h2.2.2.1.trans h.2.2.1, Nat.le_trans h.2.2.2.1 h2.2.2.2.1, fun k hk a b' c => (h2.2.2.2.2 k (Nat.lt_of_lt_of_le hk h.2.2.2.1) a b' c).trans (h.2.2.2.2 k hk a b' c)⟩
theorem Keep3.of_only {b g m x : Nat} {w w' : World} (h : w.grownBy w' (some x)) (hx : x = b ∨ x = g ∨ x = m) : Keep3 b g m w w' :=
  ⟨h.os, h.tape, h.output, h.size, fun k hk h1 h2 h3 => h.block k hk (by simp; rcases hx with rfl | rfl | rfl <;> assumption)⟩
theorem Keep3.below {b g m B : Nat} {w w' : World} (h : Keep3 b g m w w') (hB : B ≤ w.heap.size) (h1 : B ≤ b) (h2 : B ≤ g) (h3 : B ≤ m) : Below B w w' :=
  ⟨h.1, h.2.1, h.2.2.1, h.2.2.2.1, fun k hk => h.2.2.2.2 k (by omega) (by omega) (by omega) (by omega)⟩

/-- 'm[k] = v' in a region that draws its order. -/
theorem step_mapUpdate {P : Program} {ops : Array Oper} {o : Oper} {a : Act} {w : World} {K : Act → World → Prop} {Q : Exit → Act → World → Prop} {E : Prop} (hgd : o.guard = none) (m x v : Operand) (t : TypeId) (hop : o.op = Op.mapUpdate t m x v)
    (k e : TypeId) (KK : Keyed P k) (ht : P.underlying t = some (.map k e)) (R : Value → Option (DataW Unit × List MemPlace)) (b n : Nat) (D : DataW Unit)
    (hm : a.eval m = .map (some b)) (hown : w.ownsMap P k R b n D) (hn : n < maxLen) (key val : Value) (kl : Lit) (hx : a.eval x = key) (hv : a.eval v = val) (hkey : keyOf P k key = some kl)
    (d : DataW Unit) (ps : List MemPlace) (hval : R val = some (d, ps))
    (hK : ∀ w', w'.ownsMap P k R b (n + 1) (D.put kl d) → w.grownBy w' (some b) → K (a.put o.dst undef) w') :
    if Region.wanted o (yielded ops a.tmps) = true then Oper.wp P o a w K Q else E := by
  have hw : Region.wanted o (yielded ops a.tmps) = true := by simp [Region.wanted, hgd]
  rw [if_pos hw]
  obtain ⟨w', hrun, r1, r2⟩ := hown.update KK ht hn hkey hval
  unfold Oper.wp
  simp [execOp, hop, hm, hx, hv, hrun, Result.andThen]
  exact hK w' r1 r2

theorem rep_is (c : Nat) (x : Int) (hx : x = c) (z : ByteArray) (hz : ofL (List.replicate c 0) = z) (hc : c ≤ 1000) (w : World) :
    Calls Tryz.prog 20 #[.string ⟨#[0]⟩, .int .i64 x] w fun e w' => e = .returned (.string z) ∧ Below w.heap.size w w' := by
  subst hx
  subst hz
  have h := Tryz.strings_Repeat ⟨#[0]⟩ c w (by omega) (by show 1 * c ≤ _; omega)
  have e : (⟨(Lib.repeatL (⟨#[0]⟩ : ByteArray).data.toList c).toArray⟩ : ByteArray) = ofL (List.replicate c 0) := by
    show (⟨(Lib.repeatL [0] c).toArray⟩ : ByteArray) = ofL (List.replicate c 0)
    have h1 := Lib.repeatL_replicate 0 1 c
    rw [Nat.mul_one] at h1
    rw [show ([0] : List UInt8) = List.replicate 1 0 from rfl, h1]
    rfl
  rw [e] at h
  exact h
theorem St.wr_may {S : St} {i k : Int} {s : ByteArray} (h : S.may i = k) (hk : k ≠ 0) : S.wr i s = (S, k) := by unfold St.wr; rw [h, if_pos hk]
theorem St.wr_big {S : St} {i : Int} {s : ByteArray} (h : S.may i = 0) (hs : 256 < s.size) : S.wr i s = (S, 1) := by unfold St.wr; rw [h, if_neg (by simp), if_pos hs]
theorem St.wr_die {S : St} {i : Int} {s : ByteArray} (h : S.may i = 0) (hs : ¬ 256 < s.size) (hf : S.fuse = 0) : S.wr i s = (S.die, 7) := by unfold St.wr; rw [h, if_neg (by simp), if_neg hs, if_pos hf]
theorem St.wr_ok {S : St} {i : Int} {s : ByteArray} (h : S.may i = 0) (hs : ¬ 256 < s.size) (hf : S.fuse ≠ 0) : S.wr i s = ({ S with lst := S.lst.set i.toNat (fillS s), fresh := S.fresh.set i.toNat true, fuse := burn S.fuse }, 0) := by unfold St.wr; rw [h, if_neg (by simp), if_neg hs, if_neg hf]
theorem DiskAt.may0 {w : World} {b g m n : Nat} {S : St} (h : DiskAt w b g m S n) {i : Int} (hk : S.may i = 0) : 0 ≤ i ∧ i < n := by
  have hok : S.Ok n := by obtain ⟨_, _, _, _, _, _, _, _, _, _, _, _, hok, _⟩ := h; exact hok
  refine Classical.byContradiction fun hn => ?_
  rw [St.may_out hok (by omega)] at hk
  cases hd : S.dead <;> simp [hd] at hk
theorem DiskAt.fu {w : World} {b g m n : Nat} {S : St} (h : DiskAt w b g m S n) : -1 ≤ S.fuse ∧ S.fuse ≤ 9223372036854775807 ∧ n ≤ 1024 := by
  obtain ⟨_, _, _, _, _, _, _, _, _, _, _, _, hok, _, h2, hf⟩ := h
  exact ⟨hok.fuse, hf, h2⟩

set_option maxRecDepth 20000 in
set_option maxHeartbeats 4000000 in
theorem write_any (w : World) (b g m : Nat) (S : St) (n : Nat) (i : Int) (s : ByteArray) (h : DiskAt w b g m S n) (hss : s.size ≤ 9223372036854775807) :
    Calls Tryz.prog 12 #[.pointer (some ⟨b, 0, none⟩), .int .i64 i, .string s] w fun e w' => e = .returned (.int .i64 (S.wr i s).2) ∧ DiskAt w' b g m (S.wr i s).1 n ∧ Keep3 b g m w w' := by
  obtain ⟨k, hk⟩ : ∃ k, S.may i = k := ⟨_, rfl⟩
  have HM := Lib.hid (may_is w b g m S n i k hk h)
  have HD := Lib.hid h
  by_cases hk0 : k = 0
  · subst hk0
    by_cases hs : 256 < s.size
    · have HR := Lib.hid (St.wr_big (s := s) hk hs)
      clear hk h
      have hs1 : (256 : Int) < (s.size : Int) := by omega
      go_enter Tryz.func12, Tryz.ntmps12
      go_wp2_with fail
      (with_reducible refine HM.out.mono ?_)
      rintro e w1 ⟨rfl, hb1⟩
      go_wp2_with fail
      go_ret
      exact ⟨by rw [HR.out]; rfl, by rw [HR.out]; exact HD.out.below hb1, Keep3.of_below hb1⟩
    · have hs1 : ¬ (256 : Int) < (s.size : Int) := by omega
      by_cases hf : S.fuse = 0
      · have HR := Lib.hid (St.wr_die (s := s) hk hs hf)
        have HF := Lib.hid hf
        clear hk h hs hf
        go_enter Tryz.func12, Tryz.ntmps12
        go_wp2_with fail
        (with_reducible refine HM.out.mono ?_)
        rintro e w1 ⟨rfl, hb1⟩
        have H1 := Lib.hid (HD.out.below hb1)
        go_wp2_with fail
        (with_reducible refine (burn_dead w1 b (by rw [H1.out.cells.1, HF.out]) _ H1.out.cells.2.1 H1.out.cells.2.2.2).mono ?_)
        rintro e w2 ⟨rfl, rfl⟩
        go_wp2_with fail
        go_ret
        exact ⟨by rw [HR.out]; rfl, by rw [HR.out]; exact H1.out.die, (Keep3.of_below hb1).trans (Keep3.of_only (only_set _ _ _ _) (.inl rfl))⟩
      · have HR := Lib.hid (St.wr_ok (s := s) hk hs hf)
        have hin := h.may0 hk
        have hfu := h.fu
        have HF := Lib.hid hf
        obtain ⟨j, rfl⟩ : ∃ j : Nat, i = j := ⟨i.toNat, by omega⟩
        have hj : j < n := by omega
        obtain ⟨z, hz⟩ : ∃ z, ofL (List.replicate (256 - s.size) 0) = z := ⟨_, rfl⟩
        have hzs : z.size = 256 - s.size := by rw [← hz, size_ofL, List.length_replicate]
        have HZ := Lib.hid hz
        have HFL := Lib.hid (show fillS s = s ++ z from str_eq (by unfold fillS; rw [toList_app, ← hz, toList_ofL, toList_ofL]))
        have hadd : ¬ (9223372036854775807 < s.size + z.size) := by omega
        have hwf : (Lit.int .i64 (j : Int)).wf = true := WalkArith.wf_i64 (by omega)
        have hkey := keyOf_int_mk Tryz.underlying3 hwf
        have hsub : IntKind.i64.wrap (256 - (s.size : Int)) = 256 - (s.size : Int) := by rw [IntKind.wrap_i64]; omega
        clear hk h hf hz hin
        go_enter Tryz.func12, Tryz.ntmps12
        go_wp2_with fail
        (with_reducible refine HM.out.mono ?_)
        rintro e w1 ⟨rfl, hb1⟩
        have H1 := Lib.hid (HD.out.below hb1)
        go_wp2_with fail
        (with_reducible refine (burn_live w1 b S.fuse HF.out H1.out.cells.1 H1.out.cells.2.2.1 hfu.1 hfu.2.1).mono ?_)
        rintro e w2 ⟨rfl, hw2⟩
        have HDN := Lib.hid (HD.out.map_ne)
        have H2 : Hid (DiskAt w2 b g m { S with fuse := burn S.fuse } n) := Lib.hid (by rw [hw2]; exact H1.out.fuseTo _ (burn_ge _) (by unfold burn; omega))
        have hK2 : Keep3 b g m w w2 := by rw [hw2]; exact (Keep3.of_below hb1).trans (Keep3.of_only (only_set _ _ _ _) (.inl rfl))
        clear hw2 hb1
        obtain ⟨cur, c, D, hB, hG, hcur, hc, hM, hDS, hkk, hsz, hrest⟩ := H2.out
        have HDS := Lib.hid (And.intro hDS (And.intro hkk hsz))
        have p1 := hB.cell 1
        simp only [List.getElem?_toArray, List.getElem?_cons_succ, List.getElem?_cons_zero] at p1
        have p1d : w2.drew.cell? ⟨b, 1, none⟩ = some (.map (some m)) := p1
        obtain ⟨t, ht⟩ : ∃ t, s ++ z = t := ⟨_, rfl⟩
        have htz : t.size = 256 := by rw [← ht, ByteArray.size_append]; omega
        have hval := plainElem_string (H := Unit) Tryz.underlying9 (s := t) (by unfold maxLen; omega)
        have HTZ := Lib.hid htz
        have HFT := Lib.hid (HFL.out.trans ht)
        clear hB hG hcur hc hDS hkk hsz hrest htz hzs
        have hmb : some (⟨b, 1, none⟩ : Addr).block ≠ some m := fun e => HDN.out (Option.some.inj e).symm
        go_upto_region 8 with (fail)
        go_region_held3 (fun w' => w'.cell? ⟨b, 1, none⟩ = some (.map (some m))) (first | exact p1d | exact p13 | exact p14) (first
          | (go_at_call 20; refine (rep_is (256 - s.size) _ (by omega) z HZ.out (by omega) _).mono ?_; rintro e w3 ⟨rfl, hb3⟩; have hb3' : Below w2.heap.size w2 w3 := below_of_drew hb3; have H3 := Lib.hid (H2.out.below hb3'); have hM3 := hM.kept (row := none) ⟨hb3'.os, hb3'.tape, hb3'.output, hb3'.size, fun k hk _ => hb3'.block k hk⟩ (by simp); have p13 := (hb3'.cell (World.block_lt_of_cell? w2 _ p1)).trans p1; obtain ⟨w4, hrun, hM4, hg4⟩ := hM3.update law_int Tryz.underlying47 (by unfold maxLen; omega) hkey hval; have p14 := hg4.cell p13 hmb))
        go_wp2_with fail
        go_ret
        have HQ := H3.out.put (q := n + 1) hM3 HDS.out.1 HDS.out.2.1 HDS.out.2.2 hj t HTZ.out hg4 hM4
        rw [HR.out, HFT.out, Int.toNat_natCast]
        exact ⟨rfl, HQ, hK2.trans ((Keep3.of_below hb3').trans (Keep3.of_only hg4 (.inr (.inr rfl))))⟩
  · have HR := Lib.hid (St.wr_may (s := s) hk hk0)
    have hk1 : (k == 0) = false := by simp [hk0]
    clear hk hk0 h
    go_enter Tryz.func12, Tryz.ntmps12
    go_wp2_with fail
    (with_reducible refine HM.out.mono ?_)
    rintro e w1 ⟨rfl, hb1⟩
    go_wp2_with fail
    go_ret
    exact ⟨by rw [HR.out]; rfl, by rw [HR.out]; exact HD.out.below hb1, Keep3.of_below hb1⟩
end Go.Proofs.YthjjdjhmaffoeaaGreatDoor
