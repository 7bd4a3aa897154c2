/-
  The law DiskKeeps' walk.
-/
import Derived.Test.YtbblmjpjcabfpaaDkQ
import Derived.Laws.CopyOwn
namespace Go.Proofs.Ytbblmjpjcabfpaa
open Go.RowKit Go.Maps

theorem Rd.keep3' {w w' : World} {A : Option Addr} {xs : List Value} {b g m : Nat} (h : Rd w A xs) (hk : Keep3 b g m w w') (ho : xs ≠ [] → ∀ ad, A = some ad → ad.block ≠ b ∧ ad.block ≠ g ∧ ad.block ≠ m) : Rd w' A xs := fun hn => h.keep3 hk (ho hn) hn
structure KpRel (w wr : World) (b g m q7 q8 : Nat) (A : Option Addr) (l : List Dd) (S : St) (a c : List ByteArray) : Prop where
  dk : DiskAt wr b g m S 6
  kp : Kp S a c
  r7 : Row wr q7 a
  r8 : Row wr q8 c
  rd : Rd wr A (dl l)
  bl : Below w.heap.size w wr
structure KpOff (B b g m q7 q8 : Nat) (A : Option Addr) (l : List Dd) : Prop where
  ho : dl l ≠ [] → ∀ ad, A = some ad → ad.block ≠ b ∧ ad.block ≠ g ∧ ad.block ≠ m ∧ ad.block ≠ q7 ∧ ad.block ≠ q8
  h7 : q7 ≠ b ∧ q7 ≠ g ∧ q7 ≠ m
  h8 : q8 ≠ b ∧ q8 ≠ g ∧ q8 ≠ m
  ne : q7 ≠ q8
  lo : B ≤ b ∧ B ≤ g ∧ B ≤ m ∧ B ≤ q7 ∧ B ≤ q8
theorem KpRel.quiet {w wr w1 : World} {b g m q7 q8 : Nat} {A : Option Addr} {l : List Dd} {S : St} {a c : List ByteArray} (h : KpRel w wr b g m q7 q8 A l S a c) (hb : Below wr.heap.size wr w1) : KpRel w w1 b g m q7 q8 A l S a c :=
  ⟨h.dk.below hb, h.kp, h.r7.below' hb, h.r8.below' hb, h.rd.below hb, h.bl.trans (hb.mono h.bl.size)⟩
theorem KpRel.deed {w wr w1 : World} {b g m q7 q8 : Nat} {A : Option Addr} {l : List Dd} {S S' : St} {a c : List ByteArray} (h : KpRel w wr b g m q7 q8 A l S a c) (o : KpOff w.heap.size b g m q7 q8 A l) (hk : Keep3 b g m wr w1) (hD : DiskAt w1 b g m S' 6) {a' c' : List ByteArray} (hp : Kp S' a' c') (ha : a' = a) (hc : c' = c) :
    KpRel w w1 b g m q7 q8 A l S' a c := by
  subst ha; subst hc
  exact ⟨hD, hp, h.r7.keep3 hk o.h7.1 o.h7.2.1 o.h7.2.2, h.r8.keep3 hk o.h8.1 o.h8.2.1 o.h8.2.2, h.rd.keep3' hk fun hn ad hA => ⟨(o.ho hn ad hA).1, (o.ho hn ad hA).2.1, (o.ho hn ad hA).2.2.1⟩, h.bl.trans (hk.below h.bl.size o.lo.1 o.lo.2.1 o.lo.2.2.1)⟩
theorem DiskAt.only {w w' : World} {b g m n x : Nat} {S : St} (h : DiskAt w b g m S n) (hg : w.grownBy w' (some x)) (h1 : b ≠ x) (h2 : g ≠ x) (h3 : m ≠ x) : DiskAt w' b g m S n := by
  obtain ⟨cur, c, D, hB, hG, hcur, hc, hM, hrest⟩ := h
  exact ⟨cur, c, D, hB.only hg h1, hG.only hg h2, hcur, hc, hM.kept hg (by simp; exact h3), hrest⟩
theorem Row.only {w w' : World} {q x : Nat} {l : List ByteArray} (h : Row w q l) (hg : w.grownBy w' (some x)) (h1 : q ≠ x) : Row w' q l := by
  obtain ⟨cur, h2, h3⟩ := h
  exact ⟨cur, h2.only hg h1, h3⟩
/-- The second row's sector is written; the disk has been written already. -/
theorem KpRel.store {w wr : World} {b g m q7 q8 : Nat} {A : Option Addr} {l : List Dd} {S : St} {a c : List ByteArray} (hdk : DiskAt wr b g m S 6) (h7 : Row wr q7 a) (h8 : Row wr q8 c) (hrd : Rd wr A (dl l)) (hbl : Below w.heap.size w wr) (o : KpOff w.heap.size b g m q7 q8 A l) (i : Nat) (s : ByteArray) (hp : Kp S a (c.set i s)) :
    KpRel w (wr.setCell ⟨q8, i, none⟩ (.string s)) b g m q7 q8 A l S a (c.set i s) := by
  have hg := only_set wr q8 i (.string s)
  exact ⟨hdk.only hg (fun e => o.h8.1 e.symm) (fun e => o.h8.2.1 e.symm) (fun e => o.h8.2.2 e.symm), hp, h7.only hg o.ne, h8.set_ i s, hrd.only hg (fun hn ad hA => (o.ho hn ad hA).2.2.2.2), hbl.trans (below_only hg o.lo.2.2.2.2 hbl.size)⟩

set_option maxRecDepth 100000 in
set_option maxHeartbeats 8000000 in
theorem diskKeeps_walk (A0 : Option Addr) (n0 c0 : Nat) (l0 : List Dd) (x : Int) (w : World) (hl : l0.length = n0) (hn : n0 ≤ c0) (hc : c0 ≤ 9223372036854775807) (hr : Rd w A0 (dl l0)) (hok : ∀ y ∈ l0, y.ok) (lo : -9223372036854775808 ≤ x) (hi : x ≤ 9223372036854775807) :
    Calls Try.prog 3 #[.slice A0 n0 c0, .int .i64 x] w (Yes w) := by
  unfold Yes
  obtain ⟨l, hl2⟩ : ∃ l, fewD l0 = l := ⟨_, rfl⟩
  obtain ⟨L, hL⟩ : ∃ L, l.length = L := ⟨_, rfl⟩
  have HSM : Hid (∀ w1, Below w.heap.size w w1 → Calls Try.prog 9 #[.slice A0 n0 c0] w1 (RetS w1 L (dl l))) := Lib.hid fun w1 hb => by
    have := some_any l0 A0 n0 c0 hl hok w1 (hr.below hb) (by omega)
    rw [hl2, hL] at this
    exact this
  have HOK : Hid (∀ y ∈ l, y.ok ∧ y.s.size ≤ 300) := Lib.hid (by rw [← hl2]; exact fewD_ok hok)
  have hL60 : L ≤ 60 := by rw [← hL, ← hl2]; exact fewD_len l0
  have HL := Lib.hid hL
  obtain ⟨z, hz⟩ : ∃ z, fillS ⟨#[]⟩ = z := ⟨_, rfl⟩
  have HRD0 : Hid (∀ i : Nat, i < 6 → (St.new 6).rd i = (z, 0)) := Lib.hid fun i hi => by
    have hm := St.may_ok (St.Ok.new 6) (i := (i : Int)) (by omega) (by omega)
    unfold St.rd
    rw [hm, if_pos (by rfl)]
    show ((List.replicate 6 (fillS ⟨#[]⟩))[(i : Int).toNat]?.getD ⟨#[]⟩, (0 : Int)) = _
    rw [Int.toNat_natCast, List.getElem?_replicate, if_pos hi, hz]
    rfl
  have HKP : Hid (Kp (St.new 6) (List.replicate 6 z) (List.replicate 6 z)) := Lib.hid ⟨St.Ok.new 6, rfl, rfl, by rw [← hz]; rfl, by rw [← hz]; rfl⟩
  clear hl hn hc hr hok hl2 hL hz
  go_enter Try.func3, Try.ntmps3
  go_wp2_with fail
  (with_reducible refine (new_at w 6 6 rfl (by omega) (by omega)).mono ?_)
  rintro e w1 ⟨b, g, m, rfl, hD, hB, hG, hM, hb1⟩
  have H1 := Lib.hid hD
  have K1 := Lib.hid hb1
  have LB := Lib.hid (And.intro hB (And.intro hG hM))
  clear hD hB hG hM hb1
  go_wp2_with fail
  (with_reducible refine (HSM.out w1 K1.out).mono ?_)
  rintro e w3 ⟨A, c, rfl, hc1, hc2, hrd, hfr, hb3⟩
  have H3 := Lib.hid (H1.out.below hb3)
  have HRD3 := Lib.hid hrd
  have K3 := Lib.hid (K1.out.trans (hb3.mono K1.out.size))
  have HOFF : Hid (∀ ad, A = some ad → ad.block ≠ b ∧ ad.block ≠ g ∧ ad.block ≠ m) := Lib.hid fun ad hA => by
    have h1 := hfr ad hA
    obtain ⟨_, _, _, h2, h3, _, _, h4, _⟩ := H1.out
    have := h2.lt
    have := h3.lt
    have := h4.lt
    omega
  clear hrd hfr hb3 hc1 hc2
  go_wp2_with fail
  go_loopw [7, 8, 9] (fun u v vi wr => ∃ i : Nat, vi = .int .i64 i ∧ i ≤ 6 ∧ Two w3 wr w3.heap.size i (List.replicate i z) u v) (fun _ _ vi _ => 6 - (intOf vi).toNat)
  case atStart => exact ⟨0, rfl, by omega, World.ownsRow_nil _ _ _ _, World.ownsRow_nil _ _ _ _, fun q h => by simp [Value.ownBlock] at h, Below.refl _ _⟩
  case round =>
    obtain ⟨i, rfl, hi, hR⟩ := hrel
    have HR := Lib.hid hR
    clear hR
    by_cases hlt : i < 6
    · have hl1 : (i : Int) < 6 := by omega
      have HRI := Lib.hid (HRD0.out i hlt)
      go_wp2_with fail
      (with_reducible refine (read_any wr b g m _ 6 i (H3.out.below HR.out.nb)).mono ?_)
      rw [HRI.out]
      rintro e w4 ⟨rfl, hb4⟩
      have HR4 := Lib.hid (HR.out.quiet hb4 (Nat.le_refl _))
      clear hb4
      go_wp2_with (first
        | (at_builtin; refine wpList_append_new_at w4 rfl (.tmp 43) (.tmp 45) 28 rfl w3.heap.size 9 1 16 el_strK _ i _ HR4.out.ru rfl #[.string z] rfl rfl (by intro u hu; simp at hu; subst hu; rfl) (by unfold maxLen; omega) (by omega) HR4.out.nb.size ?_; intro u5 w5 ho5 hg5 hl5; have HR5 := Lib.hid (HR4.out.half (Nat.le_refl _) ho5 hg5 hl5); clear ho5 hg5 hl5)
        | (at_builtin; refine wpList_append_new_at w5 rfl (.tmp 47) (.tmp 49) 28 rfl w3.heap.size 9 1 16 el_strK _ i _ HR5.out.rv rfl #[.string z] rfl rfl (by intro u hu; simp at hu; subst hu; rfl) (by unfold maxLen; omega) (by omega) HR5.out.nb.size ?_; intro v6 w6 ho6 hg6 hl6; have HR6 := Lib.hid (HR5.out.two (Nat.le_refl _) ho6 hg6 hl6); clear ho6 hg6 hl6))
      go_roundw
      case rel =>
        refine ⟨i + 1, congrArg _ (by omega), by omega, ?_⟩
        have := HR6.out
        rw [show List.replicate i z ++ [z] = List.replicate (i + 1) z from (List.replicate_succ' ..).symm] at this
        exact this
      case measure => simp [intOf]; omega
    · have hl1 : ¬ (i : Int) < 6 := by omega
      obtain rfl : i = 6 := by omega
      obtain ⟨q7, cap7, cur7, rfl, hq7, hB7, hcap7, _, hcur7⟩ := own_block HR.out.ru (by omega)
      obtain ⟨q8, cap8, cur8, rfl, hq8, hB8, hcap8, _, hcur8⟩ := own_block HR.out.rv (by omega)
      have hne : q7 ≠ q8 := fun e => HR.out.sep q7 rfl (by rw [e]; rfl)
      have OFF : Hid (KpOff w.heap.size b g m q7 q8 A l) := Lib.hid (by
        obtain ⟨_, _, _, h2, h3, _, _, h4, _⟩ := H3.out
        have := h2.lt
        have := h3.lt
        have := h4.lt
        have := K3.out.size
        obtain ⟨l1, l2, l3⟩ := LB.out
        refine ⟨fun hn ad hA => ?_, by omega, by omega, hne, by omega⟩
        obtain ⟨a1, a2, a3⟩ := HOFF.out ad hA
        have ha : ad.block < w3.heap.size := by
          obtain ⟨bb, o, e, hcc⟩ := HRD3.out hn
          rw [hA] at e
          cases e
          obtain ⟨y, ys, hy⟩ := List.exists_cons_of_ne_nil hn
          exact World.block_lt_of_cell? w3 _ (hcc 0 y (by rw [hy]; rfl))
        omega)
      have HREL : Hid (KpRel w wr b g m q7 q8 A l (St.new 6) (List.replicate 6 z) (List.replicate 6 z)) :=
        Lib.hid ⟨H3.out.below HR.out.nb, HKP.out, ⟨cur7, hB7, by simpa using hcur7⟩, ⟨cur8, hB8, by simpa using hcur8⟩, HRD3.out.below HR.out.nb, K3.out.trans (HR.out.nb.mono K3.out.size)⟩
      clear hB7 hB8 hcur7 hcur8 hq7 hq8 hne
      go_wp2_with fail
      go_loopw [12] (fun vi wr => ∃ (i : Nat) (S : St) (a c : List ByteArray), vi = .int .i64 i ∧ i ≤ L ∧ KpRel w wr b g m q7 q8 A l S a c) (fun vi _ => L - (intOf vi).toNat)
      case atStart => exact ⟨0, _, _, _, rfl, by omega, HREL.out⟩
      case round =>
        obtain ⟨i, S, a, c', rfl, hi, hR⟩ := hrel
        have HR2 := Lib.hid hR
        by_cases hlt : i < L
        · have hl1 : (i : Int) < (L : Int) := by omega
          obtain ⟨y, hy⟩ : ∃ y, l[i]? = some y := ⟨_, List.getElem?_eq_getElem (by rw [HL.out]; exact hlt)⟩
          obtain ⟨bb, o, rfl, q0, q1, q2⟩ := hR.rd.deed hy
          have HY := Lib.hid (HOK.out y (List.mem_of_getElem? hy))
          obtain ⟨yk, yi, ys⟩ := y
          simp only at q0 q1 q2
          clear hR hy
          by_cases hk2 : yk ≤ 2
          · have hk4 : (yk == 4) = false := by
              have : yk ≠ 4 := by omega
              simp [this]
            by_cases hy0 : (0 : Int) ≤ yi
            · by_cases hy6 : yi < 6
              · obtain ⟨j, rfl⟩ : ∃ j : Nat, yi = j := ⟨yi.toNat, by omega⟩
                have hj6 : j < 6 := by omega
                rcases HR2.out.kp.wr (i := (j : Int)) (by omega) hy6 ys with ⟨h0, h00, hK⟩ | ⟨h1, hK⟩
                · obtain ⟨t, ht⟩ : ∃ t, ((S.wr (j : Int) ys).1.rd (j : Int)).1 = t := ⟨_, rfl⟩
                  rw [ht, Int.toNat_natCast] at hK
                  have HWR : Hid (∀ w', Below wr.heap.size wr w' → Calls Try.prog 11 #[.pointer (some ⟨b, 0, none⟩), .int .i64 (j : Int), .string ys] w' fun e w'' => e = .returned (.int .i64 0) ∧ DiskAt w'' b g m (S.wr (j : Int) ys).1 6 ∧ Keep3 b g m w' w'') :=
                    Lib.hid fun w' hb => (write_any w' b g m S 6 j ys (HR2.out.dk.below hb) (by have := HY.out.2; simp only at this; omega)).mono fun e w'' ⟨he, hD, hk⟩ => ⟨by rw [he, h0], hD, hk⟩
                  have HRR : Hid (∀ w', DiskAt w' b g m (S.wr (j : Int) ys).1 6 → Calls Try.prog 10 #[.pointer (some ⟨b, 0, none⟩), .int .i64 (j : Int)] w' fun e w'' => e = .returned (.tuple #[.string t, .int .i64 0]) ∧ Below w'.heap.size w' w'') :=
                    Lib.hid fun w' hD => (read_any w' b g m _ 6 j hD).mono fun e w'' ⟨he, hb⟩ => ⟨by rw [he, ht, h00], hb⟩
                  have HK := Lib.hid hK
                  clear h0 h00 hK ht
                  go_wp2_with fail
                  (with_reducible refine (HWR.out _ ((Below.refl _ wr).alloc (Nat.le_refl _) _)).mono ?_)
                  rintro e w5 ⟨rfl, hD5, hk5⟩
                  have HD5 := Lib.hid hD5
                  have HA := Lib.hid (HR2.out.quiet ((Below.refl _ wr).alloc (Nat.le_refl _) (.cells #[.int .i64 yk, .int .i64 (j : Int), .string ys] 32)))
                  have h75 := HA.out.r7.keep3 hk5 OFF.out.h7.1 OFF.out.h7.2.1 OFF.out.h7.2.2
                  have h85 := HA.out.r8.keep3 hk5 OFF.out.h8.1 OFF.out.h8.2.1 OFF.out.h8.2.2
                  have hrd5 := HA.out.rd.keep3' hk5 fun hn ad hA => ⟨(OFF.out.ho hn ad hA).1, (OFF.out.ho hn ad hA).2.1, (OFF.out.ho hn ad hA).2.2.1⟩
                  have hbl5 := HA.out.bl.trans (hk5.below HA.out.bl.size OFF.out.lo.1 OFF.out.lo.2.1 OFF.out.lo.2.2.1)
                  have z1 : w5.cell? ⟨wr.heap.size, 1, none⟩ = some (.int .i64 (j : Int)) := by
                    have hn1 : wr.heap.size ≠ b ∧ wr.heap.size ≠ g ∧ wr.heap.size ≠ m := by
                      obtain ⟨_, _, _, h2, h3, _, _, h4, _⟩ := HR2.out.dk
                      have := h2.lt
                      have := h3.lt
                      have := h4.lt
                      omega
                    have h1 := hk5.2.2.2.2 wr.heap.size (by simp) hn1.1 hn1.2.1 hn1.2.2
                    have h2 : (wr.alloc (.cells #[.int .i64 yk, .int .i64 (j : Int), .string ys] 32)).cell? ⟨wr.heap.size, 1, none⟩ = some (.int .i64 (j : Int)) := by
                      rw [World.cell?_alloc_mark]; rfl
                    simp only [World.cell?] at h2 ⊢
                    rw [h1]; exact h2
                  have z0 : w5.cell? ⟨wr.heap.size, 0, none⟩ = some (.int .i64 yk) := by
                    have hn1 : wr.heap.size ≠ b ∧ wr.heap.size ≠ g ∧ wr.heap.size ≠ m := by
                      obtain ⟨_, _, _, h2, h3, _, _, h4, _⟩ := HR2.out.dk
                      have := h2.lt
                      have := h3.lt
                      have := h4.lt
                      omega
                    have h1 := hk5.2.2.2.2 wr.heap.size (by simp) hn1.1 hn1.2.1 hn1.2.2
                    have h2 : (wr.alloc (.cells #[.int .i64 yk, .int .i64 (j : Int), .string ys] 32)).cell? ⟨wr.heap.size, 0, none⟩ = some (.int .i64 yk) := by
                      rw [World.cell?_alloc_mark]; rfl
                    simp only [World.cell?] at h2 ⊢
                    rw [h1]; exact h2
                  have H75 := Lib.hid h75
                  have H85 := Lib.hid h85
                  have HRD5 := Lib.hid hrd5
                  have HBL5 := Lib.hid hbl5
                  clear hD5 hk5 h75 h85 hrd5 hbl5
                  go_wp2_with fail
                  (with_reducible refine (HRR.out w5 HD5.out).mono ?_)
                  rintro e w6 ⟨rfl, hb6⟩
                  have y0 := (hb6.cell (World.block_lt_of_cell? w5 _ z0)).trans z0
                  have y1 := (hb6.cell (World.block_lt_of_cell? w5 _ z1)).trans z1
                  have HD6 := Lib.hid (HD5.out.below hb6)
                  have H76 := Lib.hid (H75.out.below' hb6)
                  have H86 := Lib.hid (H85.out.below' hb6)
                  have HRD6 := Lib.hid (HRD5.out.below hb6)
                  have HBL6 := Lib.hid (HBL5.out.trans (hb6.mono HBL5.out.size))
                  have hcj : c'[j]? = some (c'.getD j ⟨#[]⟩) := by
                    obtain ⟨hk0, _, _, _, hk1⟩ := HR2.out.kp
                    rw [List.getD_eq_getElem?_getD, List.getElem?_eq_getElem (by rw [hk1, hk0.ll]; exact hj6)]
                    rfl
                  obtain ⟨x0, x1⟩ := H86.out.at_ hcj
                  have hne8 : wr.heap.size ≠ q8 := by have := HR2.out.r8.lt; omega
                  have y0' : (w6.setCell ⟨q8, j, none⟩ (.string t)).cell? ⟨wr.heap.size, 0, none⟩ = some (.int .i64 yk) := (only_set w6 q8 j (.string t)).cell y0 (by simp; exact hne8)
                  clear hb6 z0 z1 hcj q0 q1 q2
                  go_wp2_with fail
                  go_roundw
                  case rel => exact ⟨i + 1, _, a, c'.set j t, congrArg _ (by omega), by omega, KpRel.store HD6.out H76.out H86.out HRD6.out HBL6.out OFF.out j t HK.out⟩
                  case measure => simp [intOf]; omega
                · have HWR : Hid (∀ w', Below wr.heap.size wr w' → Calls Try.prog 11 #[.pointer (some ⟨b, 0, none⟩), .int .i64 (j : Int), .string ys] w' fun e w'' => e = .returned (.int .i64 1) ∧ KpRel w w'' b g m q7 q8 (some ⟨bb, o, none⟩) l (S.wr (j : Int) ys).1 a c' ∧ Keep3 b g m w' w'') :=
                    Lib.hid fun w' hb => (write_any w' b g m S 6 j ys (HR2.out.dk.below hb) (by have := HY.out.2; simp only at this; omega)).mono fun e w'' ⟨he, hD, hk⟩ => ⟨by rw [he, h1], (HR2.out.quiet hb).deed OFF.out hk hD hK rfl rfl, hk⟩
                  clear h1 hK
                  go_wp2_with fail
                  (with_reducible refine (HWR.out _ ((Below.refl _ wr).alloc (Nat.le_refl _) _)).mono ?_)
                  rintro e w5 ⟨rfl, hR5, hk5⟩
                  have HR5 := Lib.hid hR5
                  have z0 : w5.cell? ⟨wr.heap.size, 0, none⟩ = some (.int .i64 yk) := by
                    have hn1 : wr.heap.size ≠ b ∧ wr.heap.size ≠ g ∧ wr.heap.size ≠ m := by
                      obtain ⟨_, _, _, h2, h3, _, _, h4, _⟩ := HR2.out.dk
                      have := h2.lt
                      have := h3.lt
                      have := h4.lt
                      omega
                    have h1 := hk5.2.2.2.2 wr.heap.size (by simp) hn1.1 hn1.2.1 hn1.2.2
                    have h2 : (wr.alloc (.cells #[.int .i64 yk, .int .i64 (j : Int), .string ys] 32)).cell? ⟨wr.heap.size, 0, none⟩ = some (.int .i64 yk) := by
                      rw [World.cell?_alloc_mark]; rfl
                    simp only [World.cell?] at h2 ⊢
                    rw [h1]; exact h2
                  clear hR5 hk5
                  go_wp2_with fail
                  go_roundw
                  case rel => exact ⟨i + 1, _, a, c', congrArg _ (by omega), by omega, HR5.out⟩
                  case measure => simp [intOf]; omega
              · go_wp2_with fail
                go_roundw
                case rel => exact ⟨i + 1, S, a, c', congrArg _ (by omega), by omega, HR2.out.quiet ((Below.refl _ wr).alloc (Nat.le_refl _) _)⟩
                case measure => simp [intOf]; omega
            · go_wp2_with fail
              go_roundw
              case rel => exact ⟨i + 1, S, a, c', congrArg _ (by omega), by omega, HR2.out.quiet ((Below.refl _ wr).alloc (Nat.le_refl _) _)⟩
              case measure => simp [intOf]; omega
          · by_cases hk4 : yk = 4
            · subst hk4
              clear hk2
              obtain ⟨h0, hK⟩ := HR2.out.kp.sync
              have HWR : Hid (∀ w', Below wr.heap.size wr w' → Calls Try.prog 12 #[.pointer (some ⟨b, 0, none⟩)] w' fun e w'' => e = .returned (.int .i64 0) ∧ DiskAt w'' b g m S.sync.1 6 ∧ Keep3 b g m w' w'') :=
                Lib.hid fun w' hb => (sync_any w' b g m S 6 (HR2.out.dk.below hb)).mono fun e w'' ⟨he, hD, hk⟩ => ⟨by rw [he, h0], hD, hk⟩
              have HK := Lib.hid hK
              clear h0 hK
              have ha6 : a.length = 6 := by obtain ⟨hk0, _, _, hk1, _⟩ := HR2.out.kp; rw [hk1]; exact hk0.lo
              have hc6 : c'.length = 6 := by obtain ⟨hk0, _, _, _, hk1⟩ := HR2.out.kp; rw [hk1]; exact hk0.ll
              have HA6 := Lib.hid ha6
              have HC6 := Lib.hid hc6
              clear ha6 hc6
              go_wp2_with fail
              (with_reducible refine (HWR.out _ ((Below.refl _ wr).alloc (Nat.le_refl _) _)).mono ?_)
              rintro e w5 ⟨rfl, hD5, hk5⟩
              have HD5 := Lib.hid hD5
              have HA := Lib.hid (HR2.out.quiet ((Below.refl _ wr).alloc (Nat.le_refl _) (.cells #[.int .i64 4, .int .i64 yi, .string ys] 32)))
              have H75 := Lib.hid (HA.out.r7.keep3 hk5 OFF.out.h7.1 OFF.out.h7.2.1 OFF.out.h7.2.2)
              have H85 := Lib.hid (HA.out.r8.keep3 hk5 OFF.out.h8.1 OFF.out.h8.2.1 OFF.out.h8.2.2)
              have HRD5 := Lib.hid (HA.out.rd.keep3' hk5 fun hn ad hA => ⟨(OFF.out.ho hn ad hA).1, (OFF.out.ho hn ad hA).2.1, (OFF.out.ho hn ad hA).2.2.1⟩)
              have HBL5 := Lib.hid (HA.out.bl.trans (hk5.below HA.out.bl.size OFF.out.lo.1 OFF.out.lo.2.1 OFF.out.lo.2.2.1))
              clear hD5 hk5
              go_wp2_with (refine wpList_copy_rows w5 rfl (.tmp 103) (.tmp 104) rfl q7 q8 6 cap7 cap8 a c' H75.out H85.out HA6.out HC6.out rfl rfl ?_; intro w6 hg6 h76; have HG6 := Lib.hid hg6; have H76 := Lib.hid h76; clear hg6 h76; go_frame)
              go_roundw
              case rel =>
                refine ⟨i + 1, S.sync.1, c', c', congrArg _ (by omega), by omega, HD5.out.only HG6.out (fun e => OFF.out.h7.1 e.symm) (fun e => OFF.out.h7.2.1 e.symm) (fun e => OFF.out.h7.2.2 e.symm), HK.out, H76.out, H85.out.only HG6.out (fun e => OFF.out.ne e.symm), HRD5.out.only HG6.out (fun hn ad hA => (OFF.out.ho hn ad hA).2.2.2.1), HBL5.out.trans (below_only HG6.out OFF.out.lo.2.2.2.1 HBL5.out.size)⟩
              case measure => simp [intOf]; omega
            · have hk4' : (yk == 4) = false := by simp [hk4]
              clear hk4
              go_wp2_with fail
              go_roundw
              case rel => exact ⟨i + 1, S, a, c', congrArg _ (by omega), by omega, HR2.out.quiet ((Below.refl _ wr).alloc (Nat.le_refl _) _)⟩
              case measure => simp [intOf]; omega
        · have hl1 : ¬ (i : Int) < (L : Int) := by omega
          clear hR
          have HU0 := Lib.hid (uns_any wr b g m S 6 HR2.out.dk)
          obtain ⟨U, hU⟩ : ∃ U, (unsI S).length = U := ⟨_, rfl⟩
          have HUL := Lib.hid hU
          rw [hU] at HU0
          clear hU
          go_wp2_with fail
          (with_reducible refine HU0.out.mono ?_)
          rintro e w5 ⟨F, fc, rfl, hf1, hf2, hfrd, hffr, hb5⟩
          have HR5 := Lib.hid (HR2.out.quiet hb5)
          have HFR := Lib.hid hfrd
          have HFO : Hid (∀ ad, F = some ad → ad.block ≠ b ∧ ad.block ≠ g ∧ ad.block ≠ m) := Lib.hid fun ad hA => by
            have h1 := hffr ad hA
            obtain ⟨_, _, _, h2, h3, _, _, h4, _⟩ := HR2.out.dk
            have := h2.lt
            have := h3.lt
            have := h4.lt
            omega
          clear hf1 hf2 hfrd hffr hb5
          go_wp2_with fail
          (with_reducible refine (crash_any w5 b g m S 6 x HR5.out.dk).mono ?_)
          rintro e w6 ⟨rfl, hD6, hk6⟩
          have HD6 := Lib.hid hD6
          have H76 := Lib.hid (HR5.out.r7.keep3 hk6 OFF.out.h7.1 OFF.out.h7.2.1 OFF.out.h7.2.2)
          have H86 := Lib.hid (HR5.out.r8.keep3 hk6 OFF.out.h8.1 OFF.out.h8.2.1 OFF.out.h8.2.2)
          have HF6 := Lib.hid (HFR.out.keep3 hk6 HFO.out)
          have HBL6 := Lib.hid (HR5.out.bl.trans (hk6.below HR5.out.bl.size OFF.out.lo.1 OFF.out.lo.2.1 OFF.out.lo.2.2.1))
          have HKP6 := Lib.hid HR5.out.kp
          clear hD6 hk6
          go_wp2_with fail
          go_loopw [17, 18] (fun vk vi w7 => ∃ (t k : Nat), vk = .int .i64 k ∧ vi = .int .i64 t ∧ t ≤ 6 ∧ k = (S.fresh.take t).countP id ∧ k ≤ 6 ∧ Below w6.heap.size w6 w7) (fun _ vi _ => 6 - (intOf vi).toNat)
          case atStart => exact ⟨0, 0, rfl, rfl, by omega, by simp, by omega, Below.refl _ _⟩
          case round =>
            obtain ⟨t, k, rfl, rfl, ht, hk, hk6, hb⟩ := hrel
            have HB := Lib.hid hb
            have HKC := Lib.hid hk
            by_cases ht6 : t < 6
            · have hl2 : (t : Int) < 6 := by omega
              obtain ⟨hkr, hks⟩ := HKP6.out.crash (bitOf x) ht6
              rw [← hk] at hkr
              have hkp := HKP6.out
              obtain ⟨hok, _, _, ha, hcc⟩ := hkp
              have hfl : t < S.fresh.length := by rw [hok.lf]; exact ht6
              obtain ⟨sa, hsa⟩ : ∃ sa, a[t]? = some sa := ⟨_, List.getElem?_eq_getElem (by rw [ha, hok.lo]; exact ht6)⟩
              obtain ⟨sc, hsc⟩ : ∃ sc, c'[t]? = some sc := ⟨_, List.getElem?_eq_getElem (by rw [hcc, hok.ll]; exact ht6)⟩
              have hck : (S.fresh.take (t + 1)).countP id = k + (if S.fresh[t]? = some true then 1 else 0) := by
                rw [List.take_add_one, List.getElem?_eq_getElem hfl, List.countP_append, ← hk]
                cases S.fresh[t] <;> simp
              have HCK := Lib.hid hck
              have p7 := ((H76.out.below' HB.out).at_ hsa).1
              have p8 := ((H86.out.below' HB.out).at_ hsc).1
              have hwk : IntKind.i64.wrap ((k : Int) + 1) = (k : Int) + 1 := by rw [IntKind.wrap_i64]; omega
              clear hck ha hcc
              have HHOK := Lib.hid hok
              clear hok
              by_cases hft : S.fresh[t]? = some true
              · have hu := uns_at S.fresh 0 t hft
                rw [← hk, Nat.zero_add] at hu
                have huI : (unsI S)[k]? = some (t : Int) := by
                  unfold unsI St.uns
                  rw [List.getElem?_map, hu]
                  rfl
                have hkU : k < U := by
                  have := (List.getElem?_eq_some_iff.1 huI).1
                  rw [HUL.out] at this
                  exact this
                have hkU1 : (k : Int) < (U : Int) := by omega
                have hk0 : (0 : Int) ≤ (k : Int) := by omega
                have h9 := ((HF6.out.below HB.out).at_ (k := k) (by rw [List.length_map, HUL.out]; exact hkU))
                obtain ⟨fb, fo, rfl, hcell⟩ := h9
                have hcell2 : wr.cell? ⟨fb, fo + k, none⟩ = some (.int .i64 (t : Int)) := by
                  rw [hcell]
                  have h3 : ((unsI S).map (Value.int .i64))[k]? = some (.int .i64 (t : Int)) := by rw [List.getElem?_map, huI]; rfl
                  rw [List.getElem?_eq_getElem (by rw [List.length_map, HUL.out]; exact hkU)] at h3
                  exact h3
                have hk1' : k + 1 ≤ 6 := by
                  have h2 := HCK.out
                  rw [if_pos hft] at h2
                  have h3 : (S.fresh.take (t + 1)).countP id ≤ (S.fresh.take (t + 1)).length := List.countP_le_length
                  rw [List.length_take] at h3
                  omega
                have HK1 : Hid (k + 1 = (S.fresh.take (t + 1)).countP id) := Lib.hid (by rw [HCK.out, if_pos hft])
                cases hbit : bitOf x k with
                | true =>
                  have hv : bits .and .i64 (x / 2 ^ (k % 62)) 1 = 1 := by
                    have h2 : (bits .and .i64 (x / 2 ^ (k % 62)) 1 == 1) = true := hbit
                    simpa using h2
                  have HRR : Hid (∀ w', Below w6.heap.size w6 w' → Calls Try.prog 10 #[.pointer (some ⟨b, 0, none⟩), .int .i64 (t : Int)] w' fun e w'' => e = .returned (.tuple #[.string sc, .int .i64 0]) ∧ Below w'.heap.size w' w'') :=
                    Lib.hid fun w' hb2 => (read_any w' b g m _ 6 t (HD6.out.below hb2)).mono fun e w'' ⟨he, hb3⟩ => ⟨by rw [he, hkr, if_pos ⟨hft, hbit⟩, hsc]; rfl, hb3⟩
                  clear hkr hks hsa hsc hft hu huI hkU hcell hbit hb hk
                  go_wp2_with fail
                  (with_reducible refine (HRR.out wr HB.out).mono ?_)
                  rintro e w8 ⟨rfl, hb8⟩
                  have r7 := (hb8.cell (World.block_lt_of_cell? wr _ p7)).trans p7
                  have r8 := (hb8.cell (World.block_lt_of_cell? wr _ p8)).trans p8
                  have rf := (hb8.cell (World.block_lt_of_cell? wr _ hcell2)).trans hcell2
                  have HB8 := Lib.hid hb8
                  clear p7 p8 hcell2 hb8
                  go_wp2_with fail
                  go_roundw
                  case rel => exact ⟨t + 1, k + 1, congrArg _ (by omega), congrArg _ (by omega), by omega, HK1.out, hk1', HB.out.trans (HB8.out.mono HB.out.size)⟩
                  case measure => simp [intOf]; omega
                | false =>
                  have hv : bits .and .i64 (x / 2 ^ (k % 62)) 1 = 0 := by
                    have h2 : (bits .and .i64 (x / 2 ^ (k % 62)) 1 == 1) = false := hbit
                    have h3 := bitsand_mask (x / 2 ^ (k % 62)) 1 (by omega) 1 rfl
                    simp only [Nat.pow_one] at h3
                    rw [beq_eq_false_iff_ne] at h2
                    rw [h3] at h2 ⊢
                    omega
                  have HRR : Hid (∀ w', Below w6.heap.size w6 w' → Calls Try.prog 10 #[.pointer (some ⟨b, 0, none⟩), .int .i64 (t : Int)] w' fun e w'' => e = .returned (.tuple #[.string sa, .int .i64 0]) ∧ Below w'.heap.size w' w'') :=
                    Lib.hid fun w' hb2 => (read_any w' b g m _ 6 t (HD6.out.below hb2)).mono fun e w'' ⟨he, hb3⟩ => ⟨by rw [he, hkr, if_neg (by rw [hbit]; simp), hsa]; rfl, hb3⟩
                  clear hkr hks hsa hsc hft hu huI hkU hcell hbit hb hk
                  go_wp2_with fail
                  (with_reducible refine (HRR.out wr HB.out).mono ?_)
                  rintro e w8 ⟨rfl, hb8⟩
                  have r7 := (hb8.cell (World.block_lt_of_cell? wr _ p7)).trans p7
                  have r8 := (hb8.cell (World.block_lt_of_cell? wr _ p8)).trans p8
                  have rf := (hb8.cell (World.block_lt_of_cell? wr _ hcell2)).trans hcell2
                  have HB8 := Lib.hid hb8
                  clear p7 p8 hcell2 hb8
                  go_wp2_with fail
                  go_roundw
                  case rel => exact ⟨t + 1, k + 1, congrArg _ (by omega), congrArg _ (by omega), by omega, HK1.out, hk1', HB.out.trans (HB8.out.mono HB.out.size)⟩
                  case measure => simp [intOf]; omega
              · have hff : S.fresh[t]? = some false := by
                  rw [List.getElem?_eq_getElem hfl] at hft ⊢
                  cases hb2 : S.fresh[t] with
                  | true => rw [hb2] at hft; exact absurd rfl hft
                  | false => rfl
                have hcs := hks hff
                rw [hsa, hsc] at hcs
                obtain rfl : sc = sa := by simpa using hcs
                have HK1 : Hid (k = (S.fresh.take (t + 1)).countP id) := Lib.hid (by rw [HCK.out, if_neg hft]; rfl)
                have HRR : Hid (∀ w', Below w6.heap.size w6 w' → Calls Try.prog 10 #[.pointer (some ⟨b, 0, none⟩), .int .i64 (t : Int)] w' fun e w'' => e = .returned (.tuple #[.string sc, .int .i64 0]) ∧ Below w'.heap.size w' w'') :=
                  Lib.hid fun w' hb2 => (read_any w' b g m _ 6 t (HD6.out.below hb2)).mono fun e w'' ⟨he, hb3⟩ => ⟨by rw [he, hkr, if_neg (fun h => hft h.1), hsa]; rfl, hb3⟩
                by_cases hkU : k < U
                · have hkU1 : (k : Int) < (U : Int) := by omega
                  have hk0 : (0 : Int) ≤ (k : Int) := by omega
                  have huu : ∃ q : Nat, (unsI S)[k]? = some (q : Int) ∧ q ≠ t := by
                    have h1 : k < S.uns.length := by have := HUL.out; unfold unsI at this; rw [List.length_map] at this; omega
                    refine ⟨S.uns[k], ?_, fun e => ?_⟩
                    · unfold unsI
                      rw [List.getElem?_map, List.getElem?_eq_getElem h1]
                      rfl
                    · have h2 := uns_not S.fresh 0 t hff
                      rw [← hk, Nat.zero_add] at h2
                      refine h2 ?_
                      rw [← e]
                      exact List.getElem?_eq_getElem h1
                  obtain ⟨q, hq1, hq2⟩ := huu
                  have h9 := ((HF6.out.below HB.out).at_ (k := k) (by rw [List.length_map, HUL.out]; exact hkU))
                  obtain ⟨fb, fo, rfl, hcell⟩ := h9
                  have hcell2 : wr.cell? ⟨fb, fo + k, none⟩ = some (.int .i64 (q : Int)) := by
                    rw [hcell]
                    have h3 : ((unsI S).map (Value.int .i64))[k]? = some (.int .i64 (q : Int)) := by rw [List.getElem?_map, hq1]; rfl
                    rw [List.getElem?_eq_getElem (by rw [List.length_map, HUL.out]; exact hkU)] at h3
                    exact h3
                  have hqt : ((q : Int) == (t : Int)) = false := by rw [beq_eq_false_iff_ne]; omega
                  clear hkr hks hsa hsc hft hff hcs hkU hcell hb hk hq1 hq2
                  go_wp2_with fail
                  (with_reducible refine (HRR.out wr HB.out).mono ?_)
                  rintro e w8 ⟨rfl, hb8⟩
                  have r7 := (hb8.cell (World.block_lt_of_cell? wr _ p7)).trans p7
                  have r8 := (hb8.cell (World.block_lt_of_cell? wr _ p8)).trans p8
                  have rf := (hb8.cell (World.block_lt_of_cell? wr _ hcell2)).trans hcell2
                  have HB8 := Lib.hid hb8
                  clear p7 p8 hcell2 hb8
                  go_wp2_with fail
                  go_roundw
                  case rel => exact ⟨t + 1, k, rfl, congrArg _ (by omega), by omega, HK1.out, hk6, HB.out.trans (HB8.out.mono HB.out.size)⟩
                  case measure => simp [intOf]; omega
                · have hkU1 : ¬ (k : Int) < (U : Int) := by omega
                  clear hkr hks hsa hsc hft hff hcs hkU hb hk
                  go_wp2_with fail
                  (with_reducible refine (HRR.out wr HB.out).mono ?_)
                  rintro e w8 ⟨rfl, hb8⟩
                  have r7 := (hb8.cell (World.block_lt_of_cell? wr _ p7)).trans p7
                  have r8 := (hb8.cell (World.block_lt_of_cell? wr _ p8)).trans p8
                  have HB8 := Lib.hid hb8
                  clear p7 p8 hb8
                  go_wp2_with fail
                  go_roundw
                  case rel => exact ⟨t + 1, k, rfl, congrArg _ (by omega), by omega, HK1.out, hk6, HB.out.trans (HB8.out.mono HB.out.size)⟩
                  case measure => simp [intOf]; omega
            · have hl2 : ¬ (t : Int) < 6 := by omega
              have hu0 : (unsI (S.crash (bitOf x))) = [] := by
                have h1 : (S.crash (bitOf x)).fresh = List.replicate 6 false := by show (S.fresh.map fun _ => false) = _; rw [fresh_off, HKP6.out.1.lf]
                unfold unsI St.uns
                rw [h1]
                rfl
              have HU9 := Lib.hid (uns_any wr b g m _ 6 (HD6.out.below HB.out))
              rw [hu0] at HU9
              clear hu0 hk hb
              go_wp2_with fail
              (with_reducible refine HU9.out.mono ?_)
              rintro e w8 ⟨F8, fc8, rfl, hf1, hf2, hfrd, hffr, hb8⟩
              have HB8 := Lib.hid (HB.out.trans (hb8.mono HB.out.size))
              clear hf1 hf2 hfrd hffr hb8
              go_wp2_with fail
              (with_reducible refine (dead_any w8 b g m _ 6 (HD6.out.below HB8.out)).mono ?_)
              rintro e w9 ⟨rfl, hb9⟩
              rw [show (S.crash (bitOf x)).dead = false from rfl]
              have HB9 := Lib.hid (HB8.out.trans (hb9.mono HB8.out.size))
              clear hb9
              go_wp2_with fail
              (with_reducible refine (awake_any w9).mono ?_)
              rintro e w10 ⟨rfl, hb10⟩
              go_wp2_with fail
              go_ret
              exact ⟨rfl, HBL6.out.trans ((HB9.out.trans (hb10.mono HB9.out.size)).mono HBL6.out.size)⟩
end Go.Proofs.Ytbblmjpjcabfpaa
