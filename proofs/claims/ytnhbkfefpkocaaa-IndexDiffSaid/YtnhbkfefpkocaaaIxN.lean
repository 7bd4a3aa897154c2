/-
  sledgelaw44.of.
-/
import Derived.Test.YtnhbkfefpkocaaaIxM
namespace Go.Proofs.Ytnhbkfefpkocaaa
open Go.RowKit Go.Sort

/-- The loop's world: the result's box, x's box, y, the parts. -/
def OfW (w : World) (L : List It) (A B : Option Addr) (n c : Nat) (P : List Pt) (PA : Option Addr) (wr : World) : Prop :=
  Rd wr A (itf L) ∧ Rd wr B (itf L) ∧ (∀ ad, A = some ad → w.heap.size + 2 ≤ ad.block) ∧ (∀ ad, B = some ad → w.heap.size + 2 ≤ ad.block) ∧
  Bk wr w.heap.size 25 #[.slice none 0 0] ∧ Bk wr (w.heap.size + 1) 25 #[.slice A n c] ∧ Below w.heap.size w wr ∧ Rd wr PA (pf P) ∧ (∀ ad, PA = some ad → w.heap.size + 2 ≤ ad.block)
theorem OfW.below {w : World} {L : List It} {A B : Option Addr} {n c : Nat} {P : List Pt} {PA : Option Addr} {wr w' : World} (h : OfW w L A B n c P PA wr) (hb : Below wr.heap.size wr w') : OfW w L A B n c P PA w' :=
  ⟨h.1.below hb, h.2.1.below hb, h.2.2.1, h.2.2.2.1, h.2.2.2.2.1.below' hb, h.2.2.2.2.2.1.below' hb, bl h.2.2.2.2.2.2.1 hb, h.2.2.2.2.2.2.2.1.below hb, h.2.2.2.2.2.2.2.2⟩
theorem OfW.put {w : World} {L : List It} {A B : Option Addr} {n c : Nat} {P : List Pt} {PA : Option Addr} {wr : World} (h : OfW w L A B n c P PA wr) {L2 : List It} {A2 B2 : Option Addr} (n2 c2 : Nat)
    (ha : Rd wr A2 (itf L2)) (fa : ∀ ad, A2 = some ad → w.heap.size + 2 ≤ ad.block) (hb : Rd wr B2 (itf L2)) (fb : ∀ ad, B2 = some ad → w.heap.size + 2 ≤ ad.block) :
    OfW w L2 A2 B2 n2 c2 P PA (wr.setCell ⟨w.heap.size + 1, 0, none⟩ (.slice A2 n2 c2)) := by
  have ho := only_set wr (w.heap.size + 1) 0 (.slice A2 n2 c2)
  exact ⟨ha.only ho (Off.fresh fa (by omega)), hb.only ho (Off.fresh fb (by omega)), fa, fb, h.2.2.2.2.1.only ho (by omega), h.2.2.2.2.2.1.set_ 0 _, h.2.2.2.2.2.2.1.setCell (p := ⟨w.heap.size + 1, 0, none⟩) (by simp) _, h.2.2.2.2.2.2.2.1.only ho (Off.fresh h.2.2.2.2.2.2.2.2 (by omega)), h.2.2.2.2.2.2.2.2⟩
/-- Behind With and the variable's box. -/
def OfBox (w : World) (L : List It) (e : Int) (v ve : Value) (wx : World) : Prop := ∃ h A c, v = .pointer (some ⟨h, 0, none⟩) ∧ ve = .int .i64 e ∧ w.heap.size ≤ h ∧ Bk wx h 25 #[.slice A L.length c] ∧ Rd wx A (itf L) ∧ (∀ ad, A = some ad → w.heap.size ≤ ad.block) ∧ L.length ≤ c ∧ c ≤ maxLen ∧ Below w.heap.size w wx
theorem Bk.one (w : World) (t : TypeId) (c : Array Value) : Bk (w.alloc (.cells c t)).drew w.heap.size t c := (Bk.new w t c).drew
theorem k1 {w w6 : World} (h : Below w.heap.size w w6) (b : Nat) (hb : w.heap.size ≤ b) (v0 : Value) : Below w.heap.size w (w6.setCell ⟨b, 0, none⟩ v0) := h.setCell (p := ⟨b, 0, none⟩) hb _
/-- Behind of. -/
def OfEnd (w : World) (e : Ending) (w' : World) : Prop := ∃ (L : List It) (A B : Option Addr) (c d : Nat), e = .returned (.tuple #[.agg #[.slice A L.length c], .slice B L.length d, .bool true]) ∧ L.length ≤ c ∧ c ≤ maxLen ∧ L.length ≤ d ∧ d ≤ maxLen ∧ Rd w' A (itf L) ∧ Rd w' B (itf L) ∧ (∀ ad, A = some ad → w.heap.size ≤ ad.block) ∧ (∀ ad, B = some ad → w.heap.size ≤ ad.block) ∧ GoodL L 480 ∧ Below w.heap.size w w'
theorem with_is (L0 : List It) (A : Option Addr) (n c : Nat) (hn : L0.length = n) (hl : n ≤ 500000) (hS : SrtI L0) (id : Int) (fs : List Fl) (FA : Option Addr) (fn fc : Nat) (hfn : fs.length = fn) (hfl : fn ≤ 400000) (hfz : ∀ f ∈ fs, f.1.size ≤ 100000000 ∧ f.2.size ≤ 1000000000) (L2 : List It) (e2 : Int) (h2 : withI L0 id fs = (L2, e2)) (w : World) (hr : Rd w A (itf L0)) (hf : Rd w FA (fl fs)) :
    Calls Try.prog 16 #[.agg #[.slice A n c], .int .i64 id, .slice FA fn fc] w (WithEnd w (L2, e2)) := by
  have := with_any L0 A n c hn hl hS id fs FA fn fc hfn hfl hfz w hr hf
  rwa [h2] at this
theorem rwith_is (L0 : List It) (A : Option Addr) (n c : Nat) (hn : L0.length = n) (hl : n ≤ 500000) (hS : SrtI L0) (hz0 : ∀ y ∈ L0, y.p.size ≤ 100000000) (hnc : n ≤ c) (hcm : c ≤ maxLen) (id : Int) (fs : List Fl) (FA : Option Addr) (fn fc : Nat) (hfn : fs.length = fn) (hfl : fn ≤ 400000) (hfz : ∀ f ∈ fs, f.1.size ≤ 100000000 ∧ f.2.size ≤ 1000000000) (L2 : List It) (e2 : Int) (h2 : withI L0 id fs = (L2, e2)) (w : World) (hr : Rd w A (itf L0)) (hf : Rd w FA (fl fs)) :
    Calls Try.prog 31 #[.slice A n c, .int .i64 id, .slice FA fn fc] w (RWithEnd A w (L2, e2)) := by
  have := rwith_any L0 A n c hn hl hS hz0 hnc hcm id fs FA fn fc hfn hfl hfz w hr hf
  rwa [h2] at this
theorem sameI_true (l : List It) (A B : Option Addr) (n c d : Nat) (w : World) (hn : l.length = n) (hn70 : n ≤ 1000000) (hr : Rd w A (itf l)) (hs : Rd w B (itf l)) :
    Calls Try.prog 11 #[.slice A n c, .slice B n d] w fun e w' => e = .returned (.bool true) ∧ Below w.heap.size w w' := by
  have := sameI_any l l A B n n c d w hn hn hn70 hr hs
  simpa using this
theorem fresh_w {a b : Nat} {A : Option Addr} (h : ∀ ad, A = some ad → b ≤ ad.block) (hab : a ≤ b) : ∀ ad, A = some ad → a ≤ ad.block := fun ad hA => Nat.le_trans hab (h ad hA)

set_option maxRecDepth 20000 in
set_option maxHeartbeats 8000000 in
theorem of_any (P0 : List Pt) (A0 : Option Addr) (n0 c0 : Nat) (hn : P0.length = n0) (hnb : n0 ≤ 9223372036854775807) (w : World) (hr : Rd w A0 (pf P0)) (hok : ∀ x ∈ P0, PtOk w x) :
    Calls Try.prog 9 #[.slice A0 n0 c0] w (OfEnd w) := by
  have HB0 := Lib.hid (((Below.refl _ w).alloc (Nat.le_refl _) (.cells #[.slice none 0 0] 25)).alloc (by simp) (.cells #[.slice none 0 0] 25))
  have HC0 := Lib.hid (And.intro (((Bk.new w 25 #[.slice none 0 0])).alloc (.cells #[.slice none 0 0] 25)) (Bk.new (w.alloc (.cells #[.slice none 0 0] 25)) 25 #[.slice none 0 0]))
  have HA := Lib.hid (And.intro hn (And.intro hr hok))
  clear hn hr hok
  go_enter Try.func9, Try.ntmps9
  go_wp2_with fail
  have hB2 : ((w.alloc (.cells #[.slice none 0 0] 25)).alloc (.cells #[.slice none 0 0] 25)).heap.size = w.heap.size + 2 := by simp
  rw [World.size_alloc] at HC0
  generalize (w.alloc (.cells #[.slice none 0 0] 25)).alloc (.cells #[.slice none 0 0] 25) = w2 at *
  refine (few_any P0 A0 n0 c0 HA.out.1 hnb w w2 HB0.out (HA.out.2.1.below HB0.out) HA.out.2.2).mono ?_
  rintro e w3 ⟨P, v0, rfl, ho0, hP12, hPok, hb3⟩
  obtain ⟨_, PA, pc, rfl, hpc, hpm, hrp⟩ := Sl.own ho0
  have hPlt : ∀ ad, PA = some ad → w.heap.size + 2 ≤ ad.block := fun ad hA => by subst hA; have := (ho0.lt ad.block rfl).1; omega
  have hbw3 := bl HB0.out (hb3.mono (Nat.le_refl _))
  obtain ⟨m, hm⟩ : ∃ m, P.length = m := ⟨_, rfl⟩
  rw [hm] at hP12 hpc ⊢
  have HP := Lib.hid (And.intro hm (And.intro hPok trivial))
  have HW3 := Lib.hid (show OfW w [] none none 0 0 P PA w3 from ⟨Rd.nil _ _, Rd.nil _ _, (fun ad h => by cases h), (fun ad h => by cases h), HC0.out.1.below hb3 (by omega), HC0.out.2.below hb3 (by omega), hbw3, hrp, hPlt⟩)
  clear ho0 hPok hb3 hbw3 hrp hPlt hm hB2 HB0 HC0 HA
  go_wp2_with fail
  go_loopw [6, 7] (fun vy vi wr => ∃ (i : Nat) (L : List It) (A B : Option Addr) (n c d : Nat), vi = .int .i64 (i : Nat) ∧ i ≤ m ∧ vy = .slice B n d ∧ n ≤ 40 * i ∧ n ≤ c ∧ c ≤ maxLen ∧ n ≤ d ∧ d ≤ maxLen ∧ Hid (L.length = n ∧ True) ∧ Hid (GoodL L (40 * i)) ∧ Hid (OfW w L A B n c P PA wr)) (fun _ vi _ => m - iOfI vi)
  case atStart => exact ⟨0, [], none, none, 0, 0, 0, rfl, by omega, rfl, by omega, by omega, by unfold maxLen; omega, by omega, by unfold maxLen; omega, Lib.hid ⟨rfl, trivial⟩, Lib.hid ⟨List.Pairwise.nil, fun y hy => by simp at hy, by simp⟩, HW3⟩
  case round =>
    clear HW3
    obtain ⟨i, L, A, B, n, c, d, rfl, hi, rfl, hn40, hnc, hcm, hnd, hdm, HN, HG, HW⟩ := hrel
    have c2 := HW.out.2.2.2.2.1.cell_ 0 (.slice none 0 0) rfl
    have c5 := HW.out.2.2.2.2.2.1.cell_ 0 (.slice A n c) rfl
    have f2 := HW.out.2.2.2.2.1.frozen 0
    have f5 := HW.out.2.2.2.2.2.1.frozen 0
    by_cases him : i < m
    · have him1 : (i : Int) < (m : Int) := by omega
      obtain ⟨x, hx⟩ : ∃ x, P[i]? = some x := ⟨_, List.getElem?_eq_getElem (by rw [HP.out.1]; exact him)⟩
      obtain ⟨pb, po, rfl, hpl, q0, q1⟩ := HW.out.2.2.2.2.2.2.2.1.part hx
      have hxk := HP.out.2.1 x (List.mem_of_getElem? hx)
      obtain ⟨id, FA, fn, fc, fs⟩ := x
      obtain ⟨⟨hfn, hfnc, hfcm, hfr⟩, hf40, hfsz⟩ := hxk
      simp only at q0 q1 hfn hfnc hfcm hfr hf40 hfsz
      have hfn40 : fn ≤ 40 := by omega
      obtain ⟨L2, e, h2⟩ : ∃ L2 e, withI L id fs = (L2, e) := ⟨_, _, rfl⟩
      have hgood := withI_good id fs L (40 * i) HG.out hfsz (by omega)
      rw [h2] at hgood
      simp only at hgood
      have hfz : ∀ f ∈ fs, f.1.size ≤ 100000000 ∧ f.2.size ≤ 1000000000 := fun f hf => by have := hfsz f hf; omega
      have hlz : ∀ y ∈ L, y.p.size ≤ 100000000 := fun y hy => by have := (HG.out.2.1 y hy).2.1; omega
      have hfrw := hfr.below HW.out.2.2.2.2.2.2.1
      have HI := Lib.hid (And.intro h2 (And.intro hgood (And.intro hfz (And.intro hlz (And.intro hfrw hfn)))))
      have HS0 : Hid (∀ w', Below wr.heap.size wr w' → Below wr.heap.size wr w' ∧ w'.cell? ⟨pb, po + i * 2, none⟩ = some (.int .i64 id) ∧ w'.cell? ⟨pb, po + i * 2 + 1, none⟩ = some (.slice FA fn fc) ∧ w'.cell? ⟨w.heap.size + 1, 0, none⟩ = some (.slice A n c)) := Lib.hid fun w' h => ⟨h, (h.cell (World.block_lt_of_cell? wr _ q0)).trans q0, (h.cell (World.block_lt_of_cell? wr _ q1)).trans q1, (h.cell (World.block_lt_of_cell? wr _ c5)).trans c5⟩
      have HCL := Lib.hid (fun (w' : World) (hw : Below wr.heap.size wr w') => with_is L A n c HN.out.1 (by omega) HG.out.1 id fs FA fn fc hfn (by omega) hfz L2 e h2 w' (HW.out.1.below hw) (hfrw.below hw))
      clear hx hfn hfr hf40 hfsz h2 hgood hfz hlz hfrw
      go_upto_region 7 with (fail)
      go_cut [8, 9] from 20 to 34 (fun v ve wx => OfBox wr L2 e v ve wx)
      case first =>
        clear c2 f2 f5
        go_region_held3 (fun w' => Below wr.heap.size wr w' ∧ w'.cell? ⟨pb, po + i * 2, none⟩ = some (.int .i64 id) ∧ w'.cell? ⟨pb, po + i * 2 + 1, none⟩ = some (.slice FA fn fc) ∧ w'.cell? ⟨w.heap.size + 1, 0, none⟩ = some (.slice A n c))
          (first | with_reducible exact HS0.out _ (ka wr) | with_reducible exact HS0.out _ (kb wr _) | with_reducible exact HS0.out _ hX | with_reducible exact HS0.out _ (kd hX _) | with_reducible exact HS0.out _ (k1 hX _ (Nat.le_refl _) _))
          (first
            | (go_at_call 16; (with_reducible refine (HCL.out _ (ka wr)).mono ?_); rintro e w6 ⟨v6, rfl, ⟨A6, c6, rfl, hn6, hm6, hr6, hf6⟩, hb6⟩; have hX := below_of_drew hb6)
            | (go_at_call 16; (with_reducible refine (HCL.out _ (kb wr _)).mono ?_); rintro e w6 ⟨v6, rfl, ⟨A6, c6, rfl, hn6, hm6, hr6, hf6⟩, hb6⟩; have hX := bl_one hb6; have hz := (Bk.one wr _ _).below' hb6; have z0 := hz.cell_ 0 (.slice none 0 0) rfl; have y0 := hz.frozen 0))
        all_goals
          go_wp2_with fail
          go_meet
          first
            | exact ⟨_, A6, c6, rfl, rfl, hX.size, Bk.new w6 _ _, hr6.below ((Below.refl _ w6).alloc (Nat.le_refl _) _), hf6, hn6, hm6, kd hX _⟩
            | exact ⟨_, A6, c6, rfl, rfl, Nat.le_refl _, hz.set_ 0 _, hr6.only (only_set w6 wr.heap.size 0 _) (Off.fresh (B := wr.heap.size + 1) (fun ad hA => by have := hf6 ad hA; simpa using this) (by omega)), (fun ad hA => by have := hf6 ad hA; simp at this; omega), hn6, hm6, k1 hX _ (Nat.le_refl _) _⟩
      case rest =>
        obtain ⟨h, A2, c2', rfl, rfl, hh, hbk, hr2, hf2, hn2, hm2, hbx⟩ := hcut
        have hwr2 : w.heap.size + 2 ≤ wr.heap.size := by have := HW.out.2.2.2.2.2.1.lt; omega
        have q0' := (hbx.cell (World.block_lt_of_cell? wr _ q0)).trans q0
        have q1' := (hbx.cell (World.block_lt_of_cell? wr _ q1)).trans q1
        have HWC := HW.out.below hbx
        obtain ⟨n2, hn2e⟩ : ∃ n2, L2.length = n2 := ⟨_, rfl⟩
        rw [hn2e] at hbk hn2
        have HC := Lib.hid (And.intro HWC (And.intro hbk (And.intro hr2 (And.intro (fresh_w hf2 hwr2) hn2e))))
        have HS1 : Hid (∀ w', Below wc.heap.size wc w' → Below wc.heap.size wc w' ∧ w'.cell? ⟨pb, po + i * 2, none⟩ = some (.int .i64 id) ∧ w'.cell? ⟨pb, po + i * 2 + 1, none⟩ = some (.slice FA fn fc)) := Lib.hid fun w' h => ⟨h, (h.cell (World.block_lt_of_cell? wc _ q0')).trans q0', (h.cell (World.block_lt_of_cell? wc _ q1')).trans q1'⟩
        have HRC := Lib.hid (fun (w' : World) (hw : Below wc.heap.size wc w') => rwith_is L B n d HN.out.1 (by omega) HG.out.1 HI.out.2.2.2.1 hnd hdm id fs FA fn fc HI.out.2.2.2.2.2 (by omega) HI.out.2.2.1 L2 e HI.out.1 w' (HWC.2.1.below hw) ((HI.out.2.2.2.2.1.below hbx).below hw))
        have hwc2 : w.heap.size + 2 ≤ wc.heap.size := Nat.le_trans hwr2 hbx.size
        clear q0 q1 c2 c5 f2 f5 HS0 HCL hbk hr2 hf2 hbx HWC hh hn2e hpl
        have hee : (e != e) = false := by simp
        go_wp2_with fail
        go_region_held3 (fun w' => Below wc.heap.size wc w' ∧ w'.cell? ⟨pb, po + i * 2, none⟩ = some (.int .i64 id) ∧ w'.cell? ⟨pb, po + i * 2 + 1, none⟩ = some (.slice FA fn fc))
          (first | with_reducible exact HS1.out _ (ka wc) | with_reducible exact HS1.out _ hX)
          (first | (go_at_call 31; (with_reducible refine (HRC.out _ (ka wc)).mono ?_); rintro e w5 ⟨B2, d2, rfl, hn5, hm5, hr5, hf5, hb5⟩; have hX := below_of_drew hb5))
        all_goals
          have hf6 : ∀ ad, B2 = some ad → w.heap.size + 2 ≤ ad.block := by
            rcases hf5 with rfl | hf5
            · exact HC.out.1.2.2.2.1
            · exact fresh_w hf5 hwc2
          have HW5 := HC.out.1.below hX
          have hbk5 := HC.out.2.1.below' hX
          have x0 := hbk5.cell_ 0 (.slice A2 n2 c2') rfl
          have c5 := HW5.2.2.2.2.2.1.cell_ 0 (.slice A n c) rfl
          have f5 := HW5.2.2.2.2.2.1.frozen 0
          have hn5 : n2 ≤ d2 := by have := HC.out.2.2.2.2; omega
          have hlen : L2.length = n2 := HC.out.2.2.2.2
          by_cases he0 : e = 0
          · have hne : (e == 0) = true := by simp [he0]
            have hg2 : GoodL L2 (40 * (i + 1)) := by
              rcases HI.out.2.1 with ⟨_, h⟩ | ⟨h, _⟩
              · exact ⟨h.1, h.2.1, by have := h.2.2; have := HI.out.2.2.2.2.2; omega⟩
              · exact absurd he0 h
            have HN5 := Lib.hid (And.intro (HW5.put (L2 := L2) n2 c2' (HC.out.2.2.1.below hX) HC.out.2.2.2.1 hr5 hf6) (And.intro hg2 hlen))
            have hn240 : n2 ≤ 40 * (i + 1) := by have := hg2.2.2; omega
            subst he0
            rw [hlen]
            clear hb5 hX hr5 hf5 hf6 HW5 hbk5 hg2 hlen
            go_wp2_with fail
            go_round
            case rel => exact ⟨i + 1, L2, A2, B2, n2, c2', d2, by first | rfl | go_num, by omega, rfl, by omega, hn2, hm2, hn5, hm5, Lib.hid ⟨HN5.out.2.2, trivial⟩, Lib.hid HN5.out.2.1, Lib.hid HN5.out.1⟩
            case measure => simp [iOfI]; omega
          · have hne : (e == 0) = false := by simp [he0]
            have hl0 : n2 = 0 := by
              rcases HI.out.2.1 with ⟨h, _⟩ | ⟨_, h⟩
              · exact absurd h he0
              · rw [h] at hlen; simpa using hlen.symm
            subst hl0
            have HN5 := Lib.hid HW5
            have hg2 : GoodL L (40 * (i + 1)) := ⟨HG.out.1, HG.out.2.1, by have := HG.out.2.2; omega⟩
            have HG2 := Lib.hid hg2
            rw [hlen]
            clear hb5 hX hr5 hf5 hf6 HW5 hbk5 hlen hg2
            go_wp2_with (go_at_call 32; refine (len_any A2 0 c2' _).mono ?_; rintro e7 w7 ⟨rfl, hb7⟩)
            go_round
            case rel => exact ⟨i + 1, L, A, B, n, c, d, by first | rfl | go_num, by omega, rfl, by omega, hnc, hcm, hnd, hdm, HN, HG2, Lib.hid (HN5.out.below hb7)⟩
            case measure => simp [iOfI]; omega
    · obtain rfl : i = m := by omega
      have HS1 : Hid (∀ w', Below wr.heap.size wr w' → Below w.heap.size w w' ∧ w'.cell? ⟨w.heap.size + 1, 0, none⟩ = some (.slice A n c)) := Lib.hid fun w' h => ⟨bl HW.out.2.2.2.2.2.2.1 h, (h.cell (World.block_lt_of_cell? wr _ c5)).trans c5⟩
      have HS2 : Hid (∀ w', Below wr.heap.size wr w' → Below w.heap.size w (w'.setCell ⟨w.heap.size, 0, none⟩ (.slice A n c)) ∧ (w'.setCell ⟨w.heap.size, 0, none⟩ (.slice A n c)).cell? ⟨w.heap.size + 1, 0, none⟩ = some (.slice A n c)) := Lib.hid fun w' h => ⟨(bl HW.out.2.2.2.2.2.2.1 h).setCell (p := ⟨w.heap.size, 0, none⟩) (Nat.le_refl _) _, ((HW.out.2.2.2.2.2.1.below' h).far (by simp) _).cell_ 0 (.slice A n c) rfl⟩
      have HLS := Lib.hid (fun (w' : World) (hw : Below wr.heap.size wr w') => list_any L A n c HN.out.1 (by have := HG.out.2.2; omega) w' (HW.out.1.below hw))
      have HSM := Lib.hid (fun (w' : World) (hw : Below wr.heap.size wr w') (LB : Option Addr) (ld : Nat) (hl : Rd w' LB (itf L)) => sameI_true L LB B n ld d w' HN.out.1 (by have := HG.out.2.2; omega) hl (HW.out.2.1.below hw))
      have HBK := Lib.hid (fun (w' : World) (hw : Below wr.heap.size wr w') => HW.out.2.2.2.2.1.below' hw)
      clear f5
      go_wp2_with fail
      go_region_held3 (fun w' => Below w.heap.size w w' ∧ w'.cell? ⟨w.heap.size + 1, 0, none⟩ = some (.slice A n c))
        (first | with_reducible exact HS1.out _ (ka wr) | with_reducible exact HS1.out _ hX | with_reducible exact HS1.out _ hX2 | with_reducible exact HS1.out _ hX3 | with_reducible exact HS2.out _ hX3)
        (first
          | (go_at_call 12; (with_reducible refine (HLS.out _ (ka wr)).mono ?_); rintro e w6 ⟨LB, ld, rfl, hl1, hl2, hrl, hb6⟩; have hX := below_of_drew hb6)
          | (go_at_call 11; (with_reducible refine (HSM.out _ hX LB ld hrl).mono ?_); rintro e w7 ⟨rfl, hb7⟩; have hX2 := bl hX hb7)
          | (go_at_call 32; (with_reducible refine (len_any A n c _).mono ?_); rintro e w8 ⟨rfl, hb8⟩; have hX3 := bl hX2 hb8; have y2 := (HBK.out _ hX3).cell_ 0 (.slice none 0 0) rfl; have g2 := (HBK.out _ hX3).frozen 0))
      all_goals
        go_wp2_with fail
        have hcc := World.cell?_setCell_same w8 ⟨w.heap.size, 0, none⟩ (.slice A n c) y2
        refine bodyPost_ret (v := .tuple #[.agg #[.slice A n c], .slice B n d, .bool true]) (by simp [results, Try.results9, go_sem, hcc]) rfl ?_
        have hw8 := HW.out.below hX3
        have ho := only_set w8 w.heap.size 0 (.slice A n c)
        exact ⟨L, A, B, c, d, by rw [HN.out.1], by rw [HN.out.1]; exact hnc, hcm, by rw [HN.out.1]; exact hnd, hdm, hw8.1.only ho (Off.fresh hw8.2.2.1 (by omega)), hw8.2.1.only ho (Off.fresh hw8.2.2.2.1 (by omega)), fresh_w hw8.2.2.1 (by omega), fresh_w hw8.2.2.2.1 (by omega), ⟨HG.out.1, HG.out.2.1, by have := HG.out.2.2; omega⟩, (HS2.out _ hX3).1⟩
end Go.Proofs.Ytnhbkfefpkocaaa
