/-
  The code's disk: Read.
-/
import Derived.Test.YthjjdjhmaffoeaaGreatDoorDkD
namespace Go.Proofs.YthjjdjhmaffoeaaGreatDoor
open Go.RowKit Go.Maps

/-- 'v, ok := m[k]' at texts. -/
theorem wpList_lookup_ok_str {P : Program} (w : World) {ops : Array Oper} {rest : List Oper} {o : Oper} {a : Act} {Q : Exit → Act → World → Prop} (hg : o.guard = none) (m x : Operand) (t : TypeId) (hop : o.op = Op.lookup t m x true)
    (k e : TypeId) (K : Keyed P k) (ht : P.underlying t = some (.map k e)) (he : P.underlying e = some .string) (hz : (zeroValue e).run P w = .ok (.string ⟨#[]⟩) w) (b n : Nat) (D : DataW Unit)
    (hm : a.eval m = .map (some b)) (hown : w.ownsMap P k (plainElem P e) b n D) (key : Value) (kl : Lit) (hx : a.eval x = key) (hkey : keyOf P k key = some kl)
    (hK : ∀ c : ByteArray, D.atKey kl (.lit (.string [])) = .lit (.string c.data.toList) → wpList P ops Q rest (a.put o.dst (.tuple #[.string c, .bool (Maps.has D kl)])) w) :
    wpList P ops Q (o :: rest) a w :=
  wpList_lookup_own_ok w hg m x t hop k e K ht (plainElem P e) hz (.lit (.string [])) [] (plainElem_string he (by decide)) b n D hm hown key kl hx hkey (fun v ps hv => by
    obtain ⟨c, rfl, hc, _⟩ := plainElem_string_inv he hv
    exact hK c (congrArg Prod.fst hc))
theorem law_int : Keyed Tryz.prog 3 := int_keyed Tryz.underlying3
theorem zero_str (w : World) : (zeroValue 9).run Tryz.prog w = .ok (.string ⟨#[]⟩) w := by kernel_rfl
theorem str_of_data {a b : ByteArray} (h : a.data.toList = b.data.toList) : a = b := by
  cases a; cases b
  simp at h
  rw [h]
theorem DiskAt.old {w : World} {b g m n : Nat} {S : St} (h : DiskAt w b g m S n) {i : Nat} (hi : i < n) : ∃ s, S.old[i]? = some s ∧ w.cell? ⟨g, i, none⟩ = some (.string s) := by
  obtain ⟨cur, c, D, hB, hG, hcur, hc, hM, hD, hk, hsz, hbg, hok, hn1, hn2, hf⟩ := h
  have hs : S.old[i]? = some (S.old[i]'(by rw [hok.lo]; exact hi)) := List.getElem?_eq_getElem _
  refine ⟨_, hs, ?_⟩
  have h2 : (strs S.old)[i]? = some (.string (S.old[i]'(by rw [hok.lo]; exact hi))) := by unfold strs; rw [List.getElem?_map, hs]; rfl
  rw [← hcur, List.getElem?_take, if_pos hi, Array.getElem?_toList] at h2
  exact (hG.cell i).trans h2
theorem DiskAt.below {w w' : World} {b g m n : Nat} {S : St} (h : DiskAt w b g m S n) (hb : Below w.heap.size w w') : DiskAt w' b g m S n := by
  obtain ⟨cur, c, D, hB, hG, hcur, hc, hM, hrest⟩ := h
  exact ⟨cur, c, D, hB.below' hb, hG.below' hb, hcur, hc, hM.kept (row := none) ⟨hb.os, hb.tape, hb.output, hb.size, fun k hk _ => hb.block k hk⟩ (by simp), hrest⟩
theorem may_is (w : World) (b g m : Nat) (S : St) (n : Nat) (i k : Int) (hk : S.may i = k) (h : DiskAt w b g m S n) :
    Calls Tryz.prog 33 #[.pointer (some ⟨b, 0, none⟩), .int .i64 i] w fun e w' => e = .returned (.int .i64 k) ∧ Below w.heap.size w w' := by subst hk; exact may_any w b g m S n i h

set_option maxRecDepth 20000 in
set_option maxHeartbeats 2000000 in
theorem read_any (w : World) (b g m : Nat) (S : St) (n : Nat) (i : Int) (h : DiskAt w b g m S n) :
    Calls Tryz.prog 26 #[.pointer (some ⟨b, 0, none⟩), .int .i64 i] w fun e w' => e = .returned (.tuple #[.string (S.rd i).1, .int .i64 (S.rd i).2]) ∧ Below w.heap.size w w' := by
  obtain ⟨k, hk⟩ : ∃ k, S.may i = k := ⟨_, rfl⟩
  have HM := Lib.hid (may_is w b g m S n i k hk h)
  by_cases hk0 : k = 0
  · subst hk0
    have hin : 0 ≤ i ∧ i < n := by
      have hok : S.Ok n := by obtain ⟨_, _, _, _, _, _, _, _, _, _, _, _, hok, _⟩ := h; exact hok
      refine Classical.byContradiction fun hn => ?_
      rw [St.may_out hok (by omega)] at hk
      cases hd : S.dead <;> simp [hd] at hk
    obtain ⟨j, rfl⟩ : ∃ j : Nat, i = j := ⟨i.toNat, by omega⟩
    have hj : j < n := by omega
    obtain ⟨s, hs, _⟩ := h.old hj
    have HD := Lib.hid h
    have hwf : (Lit.int .i64 (j : Int)).wf = true := by
      have : n ≤ 1024 := by obtain ⟨_, _, _, _, _, _, _, _, _, _, _, _, _, _, h2, _⟩ := h; exact h2
      exact WalkArith.wf_i64 (by omega)
    have hkey := keyOf_int_mk Tryz.underlying3 hwf
    have HRD := Lib.hid (show S.rd j = (S.lst.getD j ⟨#[]⟩, 0) by unfold St.rd; rw [hk, if_pos rfl, Int.toNat_natCast, List.getD_eq_getElem?_getD])
    clear hk hin h
    go_enter Tryz.func26, Tryz.ntmps26
    go_wp2_with fail
    (with_reducible refine HM.out.mono ?_)
    rintro e w1 ⟨rfl, hb1⟩
    have H1 := HD.out.below hb1
    have HO := Lib.hid (H1.old hj)
    obtain ⟨cur, c, D, hB, hG, hcur, hc, hM, hD, hkk, hsz, hbg, hok, hn1, hn2, hf⟩ := H1
    have p0 := hB.cell 0
    have p1 := hB.cell 1
    simp only [List.getElem?_toArray, List.getElem?_cons_succ, List.getElem?_cons_zero] at p0 p1
    have hbE := hb1
    obtain ⟨hh, hat⟩ := hD j (by rw [hok.ll]; exact hj)
    have hlf : S.fresh[j]? = some (S.fresh.getD j false) := by rw [List.getD_eq_getElem?_getD, List.getElem?_eq_getElem (by rw [hok.lf]; exact hj)]; rfl
    obtain ⟨t, ht, hct⟩ := HO.out
    have HS := Lib.hid (hok.same j)
    cases hfr : S.fresh.getD j false with
    | true =>
      rw [hfr] at hh hlf
      have HAT := Lib.hid (hat (.lit (.string [])) hlf)
      clear hD hkk hsz hok hcur hB hG HM HD HS hat
      go_wp2_with (at_lookup; refine wpList_lookup_ok_str _ rfl _ _ 47 rfl 3 9 law_int Tryz.underlying47 Tryz.underlying9 (zero_str _) m n D rfl hM _ (.int .i64 (j : Int)) rfl hkey ?_; intro x hx; rw [hh]; have HX := Lib.hid hx; clear hx)
      go_ret2
      refine ⟨?_, hbE⟩
      have e := HX.out.symm.trans HAT.out
      simp only [DataW.lit.injEq, Lit.string.injEq] at e
      rw [HRD.out, str_of_data e]
      rfl
    | false =>
      rw [hfr] at hh hlf
      have HLT := Lib.hid (show S.lst.getD j ⟨#[]⟩ = t by rw [List.getD_eq_getElem?_getD, hok.same j hlf, ht]; rfl)
      have hj1 : (j : Int) < (n : Int) := by omega
      clear hD hkk hsz hok hcur hB hG HM HD HS hat ht hs
      go_wp2_with (at_lookup; refine wpList_lookup_ok_str _ rfl _ _ 47 rfl 3 9 law_int Tryz.underlying47 Tryz.underlying9 (zero_str _) m n D rfl hM _ (.int .i64 (j : Int)) rfl hkey ?_; intro x hx; rw [hh]; clear hx)
      go_ret2
      exact ⟨by rw [HRD.out, HLT.out]; rfl, hbE⟩
  · have HR := Lib.hid (show S.rd i = (⟨#[]⟩, k) by unfold St.rd; rw [hk, if_neg hk0])
    have hk1 : (k == 0) = false := by simp [hk0]
    clear hk hk0 h
    go_enter Tryz.func26, Tryz.ntmps26
    go_wp2_with fail
    (with_reducible refine HM.out.mono ?_)
    rintro e w1 ⟨rfl, hb1⟩
    go_wp2_with fail
    go_ret2
    exact ⟨by rw [HR.out]; rfl, hb1⟩
end Go.Proofs.YthjjdjhmaffoeaaGreatDoor
