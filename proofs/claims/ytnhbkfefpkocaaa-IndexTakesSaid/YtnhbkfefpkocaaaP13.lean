/-
  What With keeps. No function in sight. sledgelaw44.of. slices.IndexFunc, slices.DeleteFunc at items whose archive is a number; index.Without. index.Without; the reference's Without. The walk of IndexWith.
-/
import Derived.Test.YtnhbkfefpkocaaaIxK
import Derived.Test.YtnhbkfefpkocaaaP9
import Derived.Test.YtnhbkfefpkocaaaP10
namespace Go.Proofs.Ytnhbkfefpkocaaa
open Go.RowKit Go.Sort

theorem sha_size (s : List UInt8) : (ofL (shaW s)).size = 32 := by
  rw [size_ofL]
  unfold shaW
  obtain ⟨a, b, c, d, e, f, g, i, h⟩ := eight (blocks_ok ((s.length + (padW s.length).length) / 64) startW (s ++ padW s.length) start_ok).1
  rw [h]
  rfl
/-- An item as With makes it. -/
def GoodI (y : It) : Prop := okP y.p = 0 ∧ y.p.size ≤ 20000 ∧ 1 ≤ y.id ∧ y.id ≤ 4294967295 ∧ 0 ≤ y.sz ∧ y.sz ≤ 20000 ∧ y.sm.size = 32
def GoodL (L : List It) (n : Nat) : Prop := SrtI L ∧ (∀ y ∈ L, GoodI y) ∧ L.length ≤ n
theorem withL_good (id : Int) (h1 : 1 ≤ id) (h2 : id ≤ 4294967295) : ∀ (fs : List Fl) (L : List It) (n : Nat), GoodL L n → (∀ f ∈ fs, f.1.size ≤ 20000 ∧ f.2.size ≤ 20000) → n + fs.length ≤ 512 →
    (((withL id fs L).2 = 0 ∧ GoodL (withL id fs L).1 (n + fs.length)) ∨ ((withL id fs L).2 = 5 ∧ (withL id fs L).1 = []))
  | [], L, n, hL, _, hn => by
    left
    have h512 : ¬ 512 < L.length := by have := hL.2.2; simp at hn; omega
    unfold withL
    rw [if_neg h512]
    exact ⟨rfl, hL.1, hL.2.1, by have := hL.2.2; simp; omega⟩
  | f :: fs, L, n, hL, hf, hn => by
    unfold withL
    by_cases hok : okP f.1 = 0
    · rw [if_pos hok]
      have hsz := hf f (by simp)
      have hgood : GoodI (itOf id f) := ⟨hok, hsz.1, h1, h2, by show (0 : Int) ≤ ((f.2.size : Nat) : Int); omega, by show ((f.2.size : Nat) : Int) ≤ 20000; omega, sha_size _⟩
      have hL2 : GoodL (putI L (itOf id f)) (n + 1) := by
        refine ⟨putI_srt _ _ hL.1, fun y hy => ?_, ?_⟩
        · rcases putI_mem _ _ hL.1 y hy with h | h
          · exact hL.2.1 y h
          · rw [h]; exact hgood
        · have := putI_len (itOf id f) L hL.1
          have := hL.2.2
          omega
      have ih := withL_good id h1 h2 fs (putI L (itOf id f)) (n + 1) hL2 (fun g hg => hf g (by simp [hg])) (by simp only [List.length_cons] at hn; omega)
      rw [show n + (f :: fs).length = n + 1 + fs.length by simp only [List.length_cons]; omega]
      exact ih
    · rw [if_neg hok]
      right
      have := okP_twoX f.1
      exact ⟨by omega, rfl⟩
theorem withI_good (id : Int) (fs : List Fl) (L : List It) (n : Nat) (hL : GoodL L n) (hf : ∀ f ∈ fs, f.1.size ≤ 20000 ∧ f.2.size ≤ 20000) (hn : n + fs.length ≤ 512) :
    (((withI L id fs).2 = 0 ∧ GoodL (withI L id fs).1 (n + fs.length)) ∨ ((withI L id fs).2 ≠ 0 ∧ (withI L id fs).1 = [])) := by
  unfold withI
  by_cases h : id < 1 ∨ 4294967295 < id
  · rw [if_pos h]
    right
    exact ⟨by simp, rfl⟩
  · rw [if_neg h]
    rcases withL_good id (by omega) (by omega) fs L n hL hf hn with h | ⟨h1, h2⟩
    · exact .inl h
    · exact .inr ⟨by omega, h2⟩
end Go.Proofs.Ytnhbkfefpkocaaa
namespace Go.Proofs.Ytnhbkfefpkocaaa
open Go.RowKit Go.Sort

/-- The loop's world: the result's box, x's box, y, the parts. -/
def OfW (w : World) (L : List It) (A B : Option Addr) (n c : Nat) (P : List Pt) (PA : Option Addr) (wr : World) : Prop :=
  Rd wr A (itf L) ∧ Rd wr B (itf L) ∧ (∀ ad, A = some ad → w.heap.size + 2 ≤ ad.block) ∧ (∀ ad, B = some ad → w.heap.size + 2 ≤ ad.block) ∧
  Bk wr w.heap.size 25 #[.slice none 0 0] ∧ Bk wr (w.heap.size + 1) 25 #[.slice A n c] ∧ Below w.heap.size w wr ∧ Rd wr PA (pf P) ∧ (∀ ad, PA = some ad → w.heap.size + 2 ≤ ad.block)
theorem OfW.below {w : World} {L : List It} {A B : Option Addr} {n c : Nat} {P : List Pt} {PA : Option Addr} {wr w' : World} (h : OfW w L A B n c P PA wr) (hb : Below wr.heap.size wr w') : OfW w L A B n c P PA w' :=
  ⟨h.1.below hb, h.2.1.below hb, h.2.2.1, h.2.2.2.1, h.2.2.2.2.1.below' hb, h.2.2.2.2.2.1.below' hb, bl h.2.2.2.2.2.2.1 hb, h.2.2.2.2.2.2.2.1.below hb, h.2.2.2.2.2.2.2.2⟩
theorem OfW.put {w : World} {L : List It} {A B : Option Addr} {n c : Nat} {P : List Pt} {PA : Option Addr} {wr : World} (h : OfW w L A B n c P PA wr) {L2 : List It} {A2 B2 : Option Addr} (n2 c2 : Nat)
    (ha : Rd wr A2 (itf L2)) (fa : ∀ ad, A2 = some ad → w.heap.size + 2 ≤ ad.block) (hb : Rd wr B2 (itf L2)) (fb : ∀ ad, B2 = some ad → w.heap.size + 2 ≤ ad.block) :
    OfW w L2 A2 B2 n2 c2 P PA (wr.setCell ⟨w.heap.size + 1, 0, none⟩ (.slice A2 n2 c2)) := by
  have ho := only_set wr (w.heap.size + 1) 0 (.slice A2 n2 c2)
  exact ⟨ha.only ho (Off.fresh fa (by omega)), hb.only ho (Off.fresh fb (by omega)), fa, fb, h.2.2.2.2.1.only ho (by omega), h.2.2.2.2.2.1.set_ 0 _, h.2.2.2.2.2.2.1.setCell (p := ⟨w.heap.size + 1, 0, none⟩) (by simp) _, h.2.2.2.2.2.2.2.1.only ho (Off.fresh h.2.2.2.2.2.2.2.2 (by omega)), h.2.2.2.2.2.2.2.2⟩
/-- Behind With and the variable's box. -/
def OfBox (w : World) (L : List It) (e : Int) (v ve : Value) (wx : World) : Prop := ∃ h A c, v = .pointer (some ⟨h, 0, none⟩) ∧ ve = .int .i64 e ∧ w.heap.size ≤ h ∧ Bk wx h 25 #[.slice A L.length c] ∧ Rd wx A (itf L) ∧ (∀ ad, A = some ad → w.heap.size ≤ ad.block) ∧ L.length ≤ c ∧ c ≤ maxLen ∧ Below w.heap.size w wx
theorem Bk.one (w : World) (t : TypeId) (c : Array Value) : Bk (w.alloc (.cells c t)).drew w.heap.size t c := (Bk.new w t c).drew
theorem k1 {w w6 : World} (h : Below w.heap.size w w6) (b : Nat) (hb : w.heap.size ≤ b) (v0 : Value) : Below w.heap.size w (w6.setCell ⟨b, 0, none⟩ v0) := h.setCell (p := ⟨b, 0, none⟩) hb _
/-- Behind of. -/
def OfEnd (w : World) (e : Ending) (w' : World) : Prop := ∃ (L : List It) (A B : Option Addr) (c d : Nat), e = .returned (.tuple #[.agg #[.slice A L.length c], .slice B L.length d, .bool true]) ∧ L.length ≤ c ∧ c ≤ maxLen ∧ L.length ≤ d ∧ d ≤ maxLen ∧ Rd w' A (itf L) ∧ Rd w' B (itf L) ∧ (∀ ad, A = some ad → w.heap.size ≤ ad.block) ∧ (∀ ad, B = some ad → w.heap.size ≤ ad.block) ∧ GoodL L 480 ∧ Below w.heap.size w w'
theorem with_is (L0 : List It) (A : Option Addr) (n c : Nat) (hn : L0.length = n) (hl : n ≤ 500000) (hS : SrtI L0) (id : Int) (fs : List Fl) (FA : Option Addr) (fn fc : Nat) (hfn : fs.length = fn) (hfl : fn ≤ 400000) (hfz : ∀ f ∈ fs, f.1.size ≤ 100000000 ∧ f.2.size ≤ 1000000000) (L2 : List It) (e2 : Int) (h2 : withI L0 id fs = (L2, e2)) (w : World) (hr : Rd w A (itf L0)) (hf : Rd w FA (fl fs)) :
    Calls Try.prog 16 #[.agg #[.slice A n c], .int .i64 id, .slice FA fn fc] w (WithEnd w (L2, e2)) := by
  have := with_any L0 A n c hn hl hS id fs FA fn fc hfn hfl hfz w hr hf
  rwa [h2] at this
theorem rwith_is (L0 : List It) (A : Option Addr) (n c : Nat) (hn : L0.length = n) (hl : n ≤ 500000) (hS : SrtI L0) (hz0 : ∀ y ∈ L0, y.p.size ≤ 100000000) (hnc : n ≤ c) (hcm : c ≤ maxLen) (id : Int) (fs : List Fl) (FA : Option Addr) (fn fc : Nat) (hfn : fs.length = fn) (hfl : fn ≤ 400000) (hfz : ∀ f ∈ fs, f.1.size ≤ 100000000 ∧ f.2.size ≤ 1000000000) (L2 : List It) (e2 : Int) (h2 : withI L0 id fs = (L2, e2)) (w : World) (hr : Rd w A (itf L0)) (hf : Rd w FA (fl fs)) :
    Calls Try.prog 31 #[.slice A n c, .int .i64 id, .slice FA fn fc] w (RWithEnd A w (L2, e2)) := by
  have := rwith_any L0 A n c hn hl hS hz0 hnc hcm id fs FA fn fc hfn hfl hfz w hr hf
  rwa [h2] at this
theorem sameI_true (l : List It) (A B : Option Addr) (n c d : Nat) (w : World) (hn : l.length = n) (hn70 : n ≤ 1000000) (hr : Rd w A (itf l)) (hs : Rd w B (itf l)) :
    Calls Try.prog 11 #[.slice A n c, .slice B n d] w fun e w' => e = .returned (.bool true) ∧ Below w.heap.size w w' := by
  have := sameI_any l l A B n n c d w hn hn hn70 hr hs
  simpa using this
theorem fresh_w {a b : Nat} {A : Option Addr} (h : ∀ ad, A = some ad → b ≤ ad.block) (hab : a ≤ b) : ∀ ad, A = some ad → a ≤ ad.block := fun ad hA => Nat.le_trans hab (h ad hA)

set_option maxRecDepth 20000 in
set_option maxHeartbeats 8000000 in
theorem of_any (P0 : List Pt) (A0 : Option Addr) (n0 c0 : Nat) (hn : P0.length = n0) (hnb : n0 ≤ 9223372036854775807) (w : World) (hr : Rd w A0 (pf P0)) (hok : ∀ x ∈ P0, PtOk w x) :
    Calls Try.prog 9 #[.slice A0 n0 c0] w (OfEnd w) := by
  have HB0 := Lib.hid (((Below.refl _ w).alloc (Nat.le_refl _) (.cells #[.slice none 0 0] 25)).alloc (by simp) (.cells #[.slice none 0 0] 25))
  have HC0 := Lib.hid (And.intro (((Bk.new w 25 #[.slice none 0 0])).alloc (.cells #[.slice none 0 0] 25)) (Bk.new (w.alloc (.cells #[.slice none 0 0] 25)) 25 #[.slice none 0 0]))
  have HA := Lib.hid (And.intro hn (And.intro hr hok))
  clear hn hr hok
  go_enter Try.func9, Try.ntmps9
  go_wp2_with fail
  have hB2 : ((w.alloc (.cells #[.slice none 0 0] 25)).alloc (.cells #[.slice none 0 0] 25)).heap.size = w.heap.size + 2 := by simp
  rw [World.size_alloc] at HC0
  generalize (w.alloc (.cells #[.slice none 0 0] 25)).alloc (.cells #[.slice none 0 0] 25) = w2 at *
  refine (few_any P0 A0 n0 c0 HA.out.1 hnb w w2 HB0.out (HA.out.2.1.below HB0.out) HA.out.2.2).mono ?_
  rintro e w3 ⟨P, v0, rfl, ho0, hP12, hPok, hb3⟩
  obtain ⟨_, PA, pc, rfl, hpc, hpm, hrp⟩ := Sl.own ho0
  have hPlt : ∀ ad, PA = some ad → w.heap.size + 2 ≤ ad.block := fun ad hA => by subst hA; have := (ho0.lt ad.block rfl).1; omega
  have hbw3 := bl HB0.out (hb3.mono (Nat.le_refl _))
  obtain ⟨m, hm⟩ : ∃ m, P.length = m := ⟨_, rfl⟩
  rw [hm] at hP12 hpc ⊢
  have HP := Lib.hid (And.intro hm (And.intro hPok trivial))
  have HW3 := Lib.hid (show OfW w [] none none 0 0 P PA w3 from ⟨Rd.nil _ _, Rd.nil _ _, (fun ad h => by cases h), (fun ad h => by cases h), HC0.out.1.below hb3 (by omega), HC0.out.2.below hb3 (by omega), hbw3, hrp, hPlt⟩)
  clear ho0 hPok hb3 hbw3 hrp hPlt hm hB2 HB0 HC0 HA
  go_wp2_with fail
  go_loopw [6, 7] (fun vy vi wr => ∃ (i : Nat) (L : List It) (A B : Option Addr) (n c d : Nat), vi = .int .i64 (i : Nat) ∧ i ≤ m ∧ vy = .slice B n d ∧ n ≤ 40 * i ∧ n ≤ c ∧ c ≤ maxLen ∧ n ≤ d ∧ d ≤ maxLen ∧ Hid (L.length = n ∧ True) ∧ Hid (GoodL L (40 * i)) ∧ Hid (OfW w L A B n c P PA wr)) (fun _ vi _ => m - iOfI vi)
  case atStart => exact ⟨0, [], none, none, 0, 0, 0, rfl, by omega, rfl, by omega, by omega, by unfold maxLen; omega, by omega, by unfold maxLen; omega, Lib.hid ⟨rfl, trivial⟩, Lib.hid ⟨List.Pairwise.nil, fun y hy => by simp at hy, by simp⟩, HW3⟩
  case round =>
    clear HW3
    obtain ⟨i, L, A, B, n, c, d, rfl, hi, rfl, hn40, hnc, hcm, hnd, hdm, HN, HG, HW⟩ := hrel
    have c2 := HW.out.2.2.2.2.1.cell_ 0 (.slice none 0 0) rfl
    have c5 := HW.out.2.2.2.2.2.1.cell_ 0 (.slice A n c) rfl
    have f2 := HW.out.2.2.2.2.1.frozen 0
    have f5 := HW.out.2.2.2.2.2.1.frozen 0
    by_cases him : i < m
    · have him1 : (i : Int) < (m : Int) := by omega
      obtain ⟨x, hx⟩ : ∃ x, P[i]? = some x := ⟨_, List.getElem?_eq_getElem (by rw [HP.out.1]; exact him)⟩
      obtain ⟨pb, po, rfl, hpl, q0, q1⟩ := HW.out.2.2.2.2.2.2.2.1.part hx
      have hxk := HP.out.2.1 x (List.mem_of_getElem? hx)
      obtain ⟨id, FA, fn, fc, fs⟩ := x
      obtain ⟨⟨hfn, hfnc, hfcm, hfr⟩, hf40, hfsz⟩ := hxk
      simp only at q0 q1 hfn hfnc hfcm hfr hf40 hfsz
      have hfn40 : fn ≤ 40 := by omega
      obtain ⟨L2, e, h2⟩ : ∃ L2 e, withI L id fs = (L2, e) := ⟨_, _, rfl⟩
      have hgood := withI_good id fs L (40 * i) HG.out hfsz (by omega)
      rw [h2] at hgood
      simp only at hgood
      have hfz : ∀ f ∈ fs, f.1.size ≤ 100000000 ∧ f.2.size ≤ 1000000000 := fun f hf => by have := hfsz f hf; omega
      have hlz : ∀ y ∈ L, y.p.size ≤ 100000000 := fun y hy => by have := (HG.out.2.1 y hy).2.1; omega
      have hfrw := hfr.below HW.out.2.2.2.2.2.2.1
      have HI := Lib.hid (And.intro h2 (And.intro hgood (And.intro hfz (And.intro hlz (And.intro hfrw hfn)))))
      have HS0 : Hid (∀ w', Below wr.heap.size wr w' → Below wr.heap.size wr w' ∧ w'.cell? ⟨pb, po + i * 2, none⟩ = some (.int .i64 id) ∧ w'.cell? ⟨pb, po + i * 2 + 1, none⟩ = some (.slice FA fn fc) ∧ w'.cell? ⟨w.heap.size + 1, 0, none⟩ = some (.slice A n c)) := Lib.hid fun w' h => ⟨h, (h.cell (World.block_lt_of_cell? wr _ q0)).trans q0, (h.cell (World.block_lt_of_cell? wr _ q1)).trans q1, (h.cell (World.block_lt_of_cell? wr _ c5)).trans c5⟩
      have HCL := Lib.hid (fun (w' : World) (hw : Below wr.heap.size wr w') => with_is L A n c HN.out.1 (by omega) HG.out.1 id fs FA fn fc hfn (by omega) hfz L2 e h2 w' (HW.out.1.below hw) (hfrw.below hw))
      clear hx hfn hfr hf40 hfsz h2 hgood hfz hlz hfrw
      go_upto_region 7 with (fail)
      go_cut [8, 9] from 20 to 34 (fun v ve wx => OfBox wr L2 e v ve wx)
      case first =>
        clear c2 f2 f5
        go_region_held3 (fun w' => Below wr.heap.size wr w' ∧ w'.cell? ⟨pb, po + i * 2, none⟩ = some (.int .i64 id) ∧ w'.cell? ⟨pb, po + i * 2 + 1, none⟩ = some (.slice FA fn fc) ∧ w'.cell? ⟨w.heap.size + 1, 0, none⟩ = some (.slice A n c))
          (first | with_reducible exact HS0.out _ (ka wr) | with_reducible exact HS0.out _ (kb wr _) | with_reducible exact HS0.out _ hX | with_reducible exact HS0.out _ (kd hX _) | with_reducible exact HS0.out _ (k1 hX _ (Nat.le_refl _) _))
          (first
            | (go_at_call 16; (with_reducible refine (HCL.out _ (ka wr)).mono ?_); rintro e w6 ⟨v6, rfl, ⟨A6, c6, rfl, hn6, hm6, hr6, hf6⟩, hb6⟩; have hX := below_of_drew hb6)
            | (go_at_call 16; (with_reducible refine (HCL.out _ (kb wr _)).mono ?_); rintro e w6 ⟨v6, rfl, ⟨A6, c6, rfl, hn6, hm6, hr6, hf6⟩, hb6⟩; have hX := bl_one hb6; have hz := (Bk.one wr _ _).below' hb6; have z0 := hz.cell_ 0 (.slice none 0 0) rfl; have y0 := hz.frozen 0))
        all_goals
          go_wp2_with fail
          go_meet
          first
            | exact ⟨_, A6, c6, rfl, rfl, hX.size, Bk.new w6 _ _, hr6.below ((Below.refl _ w6).alloc (Nat.le_refl _) _), hf6, hn6, hm6, kd hX _⟩
            | exact ⟨_, A6, c6, rfl, rfl, Nat.le_refl _, hz.set_ 0 _, hr6.only (only_set w6 wr.heap.size 0 _) (Off.fresh (B := wr.heap.size + 1) (fun ad hA => by have := hf6 ad hA; simpa using this) (by omega)), (fun ad hA => by have := hf6 ad hA; simp at this; omega), hn6, hm6, k1 hX _ (Nat.le_refl _) _⟩
      case rest =>
        obtain ⟨h, A2, c2', rfl, rfl, hh, hbk, hr2, hf2, hn2, hm2, hbx⟩ := hcut
        have hwr2 : w.heap.size + 2 ≤ wr.heap.size := by have := HW.out.2.2.2.2.2.1.lt; omega
        have q0' := (hbx.cell (World.block_lt_of_cell? wr _ q0)).trans q0
        have q1' := (hbx.cell (World.block_lt_of_cell? wr _ q1)).trans q1
        have HWC := HW.out.below hbx
        obtain ⟨n2, hn2e⟩ : ∃ n2, L2.length = n2 := ⟨_, rfl⟩
        rw [hn2e] at hbk hn2
        have HC := Lib.hid (And.intro HWC (And.intro hbk (And.intro hr2 (And.intro (fresh_w hf2 hwr2) hn2e))))
        have HS1 : Hid (∀ w', Below wc.heap.size wc w' → Below wc.heap.size wc w' ∧ w'.cell? ⟨pb, po + i * 2, none⟩ = some (.int .i64 id) ∧ w'.cell? ⟨pb, po + i * 2 + 1, none⟩ = some (.slice FA fn fc)) := Lib.hid fun w' h => ⟨h, (h.cell (World.block_lt_of_cell? wc _ q0')).trans q0', (h.cell (World.block_lt_of_cell? wc _ q1')).trans q1'⟩
        have HRC := Lib.hid (fun (w' : World) (hw : Below wc.heap.size wc w') => rwith_is L B n d HN.out.1 (by omega) HG.out.1 HI.out.2.2.2.1 hnd hdm id fs FA fn fc HI.out.2.2.2.2.2 (by omega) HI.out.2.2.1 L2 e HI.out.1 w' (HWC.2.1.below hw) ((HI.out.2.2.2.2.1.below hbx).below hw))
        have hwc2 : w.heap.size + 2 ≤ wc.heap.size := Nat.le_trans hwr2 hbx.size
        clear q0 q1 c2 c5 f2 f5 HS0 HCL hbk hr2 hf2 hbx HWC hh hn2e hpl
        have hee : (e != e) = false := by simp
        go_wp2_with fail
        go_region_held3 (fun w' => Below wc.heap.size wc w' ∧ w'.cell? ⟨pb, po + i * 2, none⟩ = some (.int .i64 id) ∧ w'.cell? ⟨pb, po + i * 2 + 1, none⟩ = some (.slice FA fn fc))
          (first | with_reducible exact HS1.out _ (ka wc) | with_reducible exact HS1.out _ hX)
          (first | (go_at_call 31; (with_reducible refine (HRC.out _ (ka wc)).mono ?_); rintro e w5 ⟨B2, d2, rfl, hn5, hm5, hr5, hf5, hb5⟩; have hX := below_of_drew hb5))
        all_goals
          have hf6 : ∀ ad, B2 = some ad → w.heap.size + 2 ≤ ad.block := by
            rcases hf5 with rfl | hf5
            · exact HC.out.1.2.2.2.1
            · exact fresh_w hf5 hwc2
          have HW5 := HC.out.1.below hX
          have hbk5 := HC.out.2.1.below' hX
          have x0 := hbk5.cell_ 0 (.slice A2 n2 c2') rfl
          have c5 := HW5.2.2.2.2.2.1.cell_ 0 (.slice A n c) rfl
          have f5 := HW5.2.2.2.2.2.1.frozen 0
          have hn5 : n2 ≤ d2 := by have := HC.out.2.2.2.2; omega
          have hlen : L2.length = n2 := HC.out.2.2.2.2
          by_cases he0 : e = 0
          · have hne : (e == 0) = true := by simp [he0]
            have hg2 : GoodL L2 (40 * (i + 1)) := by
              rcases HI.out.2.1 with ⟨_, h⟩ | ⟨h, _⟩
              · exact ⟨h.1, h.2.1, by have := h.2.2; have := HI.out.2.2.2.2.2; omega⟩
              · exact absurd he0 h
            have HN5 := Lib.hid (And.intro (HW5.put (L2 := L2) n2 c2' (HC.out.2.2.1.below hX) HC.out.2.2.2.1 hr5 hf6) (And.intro hg2 hlen))
            have hn240 : n2 ≤ 40 * (i + 1) := by have := hg2.2.2; omega
            subst he0
            rw [hlen]
            clear hb5 hX hr5 hf5 hf6 HW5 hbk5 hg2 hlen
            go_wp2_with fail
            go_round
            case rel => exact ⟨i + 1, L2, A2, B2, n2, c2', d2, by first | rfl | go_num, by omega, rfl, by omega, hn2, hm2, hn5, hm5, Lib.hid ⟨HN5.out.2.2, trivial⟩, Lib.hid HN5.out.2.1, Lib.hid HN5.out.1⟩
            case measure => simp [iOfI]; omega
          · have hne : (e == 0) = false := by simp [he0]
            have hl0 : n2 = 0 := by
              rcases HI.out.2.1 with ⟨h, _⟩ | ⟨_, h⟩
              · exact absurd h he0
              · rw [h] at hlen; simpa using hlen.symm
            subst hl0
            have HN5 := Lib.hid HW5
            have hg2 : GoodL L (40 * (i + 1)) := ⟨HG.out.1, HG.out.2.1, by have := HG.out.2.2; omega⟩
            have HG2 := Lib.hid hg2
            rw [hlen]
            clear hb5 hX hr5 hf5 hf6 HW5 hbk5 hlen hg2
            go_wp2_with (go_at_call 32; refine (len_any A2 0 c2' _).mono ?_; rintro e7 w7 ⟨rfl, hb7⟩)
            go_round
            case rel => exact ⟨i + 1, L, A, B, n, c, d, by first | rfl | go_num, by omega, rfl, by omega, hnc, hcm, hnd, hdm, HN, HG2, Lib.hid (HN5.out.below hb7)⟩
            case measure => simp [iOfI]; omega
    · obtain rfl : i = m := by omega
      have HS1 : Hid (∀ w', Below wr.heap.size wr w' → Below w.heap.size w w' ∧ w'.cell? ⟨w.heap.size + 1, 0, none⟩ = some (.slice A n c)) := Lib.hid fun w' h => ⟨bl HW.out.2.2.2.2.2.2.1 h, (h.cell (World.block_lt_of_cell? wr _ c5)).trans c5⟩
      have HS2 : Hid (∀ w', Below wr.heap.size wr w' → Below w.heap.size w (w'.setCell ⟨w.heap.size, 0, none⟩ (.slice A n c)) ∧ (w'.setCell ⟨w.heap.size, 0, none⟩ (.slice A n c)).cell? ⟨w.heap.size + 1, 0, none⟩ = some (.slice A n c)) := Lib.hid fun w' h => ⟨(bl HW.out.2.2.2.2.2.2.1 h).setCell (p := ⟨w.heap.size, 0, none⟩) (Nat.le_refl _) _, ((HW.out.2.2.2.2.2.1.below' h).far (by simp) _).cell_ 0 (.slice A n c) rfl⟩
      have HLS := Lib.hid (fun (w' : World) (hw : Below wr.heap.size wr w') => list_any L A n c HN.out.1 (by have := HG.out.2.2; omega) w' (HW.out.1.below hw))
      have HSM := Lib.hid (fun (w' : World) (hw : Below wr.heap.size wr w') (LB : Option Addr) (ld : Nat) (hl : Rd w' LB (itf L)) => sameI_true L LB B n ld d w' HN.out.1 (by have := HG.out.2.2; omega) hl (HW.out.2.1.below hw))
      have HBK := Lib.hid (fun (w' : World) (hw : Below wr.heap.size wr w') => HW.out.2.2.2.2.1.below' hw)
      clear f5
      go_wp2_with fail
      go_region_held3 (fun w' => Below w.heap.size w w' ∧ w'.cell? ⟨w.heap.size + 1, 0, none⟩ = some (.slice A n c))
        (first | with_reducible exact HS1.out _ (ka wr) | with_reducible exact HS1.out _ hX | with_reducible exact HS1.out _ hX2 | with_reducible exact HS1.out _ hX3 | with_reducible exact HS2.out _ hX3)
        (first
          | (go_at_call 12; (with_reducible refine (HLS.out _ (ka wr)).mono ?_); rintro e w6 ⟨LB, ld, rfl, hl1, hl2, hrl, hb6⟩; have hX := below_of_drew hb6)
          | (go_at_call 11; (with_reducible refine (HSM.out _ hX LB ld hrl).mono ?_); rintro e w7 ⟨rfl, hb7⟩; have hX2 := bl hX hb7)
          | (go_at_call 32; (with_reducible refine (len_any A n c _).mono ?_); rintro e w8 ⟨rfl, hb8⟩; have hX3 := bl hX2 hb8; have y2 := (HBK.out _ hX3).cell_ 0 (.slice none 0 0) rfl; have g2 := (HBK.out _ hX3).frozen 0))
      all_goals
        go_wp2_with fail
        have hcc := World.cell?_setCell_same w8 ⟨w.heap.size, 0, none⟩ (.slice A n c) y2
        refine bodyPost_ret (v := .tuple #[.agg #[.slice A n c], .slice B n d, .bool true]) (by simp [results, Try.results9, go_sem, hcc]) rfl ?_
        have hw8 := HW.out.below hX3
        have ho := only_set w8 w.heap.size 0 (.slice A n c)
        exact ⟨L, A, B, c, d, by rw [HN.out.1], by rw [HN.out.1]; exact hnc, hcm, by rw [HN.out.1]; exact hnd, hdm, hw8.1.only ho (Off.fresh hw8.2.2.1 (by omega)), hw8.2.1.only ho (Off.fresh hw8.2.2.2.1 (by omega)), fresh_w hw8.2.2.1 (by omega), fresh_w hw8.2.2.2.1 (by omega), ⟨HG.out.1, HG.out.2.1, by have := HG.out.2.2; omega⟩, (HS2.out _ hX3).1⟩
end Go.Proofs.Ytnhbkfefpkocaaa
namespace Go.Proofs.Ytnhbkfefpkocaaa
open Go.RowKit Go.Sort

section
variable {P : Program}
theorem run_clearK (w : World) (dT ty elem : TypeId) (z : Value) (size bytes : Nat) (g o k c : Nat) (cur : Array Value) (t : TypeId) (cs : List Value)
    (hu : P.underlying dT = some (.slice elem)) (hi : (P.info? elem).map (fun i => (i.zero, i.size, i.bytes)) = some (some z, size, bytes)) (hk : k ≠ 0)
    (hg : w.heap[g]? = some (.cells cur t (0, 0))) (hcs : (Builtin.zeroCells z.cells k).toList = cs) (hfit : o + cs.length ≤ cur.size) (h1 : ∀ v ∈ cs, v.oneCell' = true) :
    (Builtin.clear_ #[dT] ty #[.slice (some ⟨g, o, none⟩) k c]).run P w = .ok (.tuple #[]) (w.setRow g (cur.toList.take o ++ cs ++ cur.toList.drop (o + cs.length)).toArray) := by
  obtain ⟨i0, hi0, hz0, _, _⟩ := info_parts hi
  have hst := run_storeCells_at P g o t cs 0 cur w hg (by simpa using hfit) h1
  cases k with
  | zero => exact absurd rfl hk
  | succ k =>
    simp only [Builtin.clear_]
    simp [run_underlying hu, zeroValue, typeInfo, hi0, hz0, hcs, hst]
theorem wpList_clearK {w : World} {ops : Array Oper} {rest : List Oper} {o : Oper} {a : Act} {Q : Exit → Act → World → Prop} (hgd : o.guard = none) (s : Operand) (dT : TypeId)
    (ho : o.op = .call { callee := .builtin .clear, args := #[s], argTypes := #[dT] }) (elem : TypeId) (z : Value) (size bytes : Nat) (hu : P.underlying dT = some (.slice elem)) (hi : (P.info? elem).map (fun i => (i.zero, i.size, i.bytes)) = some (some z, size, bytes))
    (g off k c : Nat) (hs : a.eval s = .slice (some ⟨g, off, none⟩) k c) (hk : k ≠ 0)
    (cur : Array Value) (t : TypeId) (hg : w.heap[g]? = some (.cells cur t (0, 0))) (cs : List Value) (hcs : (Builtin.zeroCells z.cells k).toList = cs)
    (hfit : off + cs.length ≤ cur.size) (h1 : ∀ v ∈ cs, v.oneCell' = true) (B : Nat) (w0 : World) (hb : Below B w0 w) (hBg : B ≤ g)
    (h : ∀ w', Hid (w'.heap[g]? = some (.cells (splice cur.toList off cs).toArray t (0, 0))) → Below B w0 w' → wpList P ops Q rest (a.put o.dst (.tuple #[])) w') : wpList P ops Q (o :: rest) a w := by
  refine wpList_plain hgd fun K hK => ?_
  have hrun := run_clearK (P := P) w dT o.type elem z size bytes g off k c cur t cs hu hi hk hg hcs hfit h1
  unfold Oper.wp
  simp [execOp, ho, resolve, invoke, builtin, hs, hrun, Result.andThen]
  exact hK _ _ (h _ (show _ = _ by simpa [splice] using setRow_heap w g _ _ t _ hg) (below_setRow hb hBg _))
end
theorem zeros_one (k : Nat) : ∀ v ∈ (Builtin.zeroCells (Value.agg #[.string ⟨#[]⟩, .int .i64 0, .int .i64 0, .string ⟨#[]⟩]).cells k).toList, v.oneCell' = true := fun v hv => by
  simp only [Builtin.zeroCells, Array.toList_map, List.mem_map] at hv
  obtain ⟨i, _, rfl⟩ := hv
  have h4 : (Value.agg #[.string ⟨#[]⟩, .int .i64 0, .int .i64 0, .string ⟨#[]⟩]).cells = #[.string ⟨#[]⟩, .int .i64 0, .int .i64 0, .string ⟨#[]⟩] := rfl
  rw [h4]
  have hlt : i % 4 < 4 := Nat.mod_lt _ (by omega)
  show Value.oneCell' (#[Value.string ⟨#[]⟩, .int .i64 0, .int .i64 0, .string ⟨#[]⟩][i % 4]!) = true
  obtain h | h | h | h : i % 4 = 0 ∨ i % 4 = 1 ∨ i % 4 = 2 ∨ i % 4 = 3 := by omega
  all_goals rw [h]; rfl
theorem zeros_len (k : Nat) : (Builtin.zeroCells (Value.agg #[.string ⟨#[]⟩, .int .i64 0, .int .i64 0, .string ⟨#[]⟩]).cells k).toList.length = k * 4 := by
  rw [Array.length_toList, size_zeroCells]
  rfl
/-- Items of other archives. -/
def woI (id : Int) (l : List It) : List It := l.filter fun y => !decide (y.id = id)
theorem woI_succ {l : List It} {j : Nat} {y : It} (id : Int) (h : l[j]? = some y) : woI id (l.take (j + 1)) = woI id (l.take j) ++ (if y.id = id then [] else [y]) := by
  unfold woI
  rw [List.take_add_one, h, List.filter_append]
  by_cases hy : y.id = id <;> simp [hy]
theorem woI_none {id : Int} {l : List It} (h : ∀ y ∈ l, y.id ≠ id) : woI id l = l := List.filter_eq_self.2 fun y hy => by simp [h y hy]

set_option maxRecDepth 20000 in
theorem clo_any (x : It) (id : Int) (ib : Nat) (b : Bool) (hb : decide (x.id = id) = b) (w : World) (hid : w.cell? ⟨ib, 0, none⟩ = some (.int .i64 id)) :
    Calls Try.prog 35 #[.agg #[.string x.p, .int .i64 x.id, .int .i64 x.sz, .string x.sm], .pointer (some ⟨ib, 0, none⟩)] w fun e w' => e = .returned (.bool b) ∧ Below w.heap.size w w' := by
  have hid2 : (w.alloc (.cells #[.string x.p, .int .i64 x.id, .int .i64 x.sz, .string x.sm] 46)).cell? ⟨ib, 0, none⟩ = some (.int .i64 id) := (((Below.refl w.heap.size w).alloc (Nat.le_refl _) _).cell (World.block_lt_of_cell? w _ hid)).trans hid
  have HB := Lib.hid (And.intro hb trivial)
  clear hb
  go_enter Try.func35, Try.ntmps35
  go_wp2_with fail
  go_ret
  exact ⟨by first | (rw [← HB.out.1]; done) | (rw [← HB.out.1]; rfl) | (rw [← HB.out.1]; simp), (Below.refl w.heap.size w).alloc (Nat.le_refl _) _⟩

theorem own_free {w : World} {base n g cap : Nat} {e : TypeId} {xs : List Value} {size : Nat} (h : w.ownsRow base e size (.slice (some ⟨g, 0, none⟩) n cap) n xs) (i : Nat) : w.frozen? ⟨g, i, none⟩ = false := by
  rcases h.2 with ⟨h0, _⟩ | ⟨g', cap', cur, hv, _, hg, _⟩
  · cases h0
  · cases hv
    exact (show Bk w _ e cur from hg).frozen i
/-- Where the first item of an archive stands. -/
def FstI (id : Int) (L : List It) (k : Int) : Prop := (k = -1 ∧ ∀ y ∈ L, y.id ≠ id) ∨ ∃ i : Nat, k = (i : Int) ∧ (∃ y, L[i]? = some y ∧ y.id = id) ∧ ∀ y ∈ L.take i, y.id ≠ id

set_option maxRecDepth 20000 in
set_option maxHeartbeats 2000000 in
theorem idxF_any (L : List It) (A : Option Addr) (n c : Nat) (hn : L.length = n) (hl : n ≤ 1000000) (id : Int) (ib : Nat) (w : World) (hr : Rd w A (itf L)) (hid : w.cell? ⟨ib, 0, none⟩ = some (.int .i64 id)) :
    Calls Try.prog 61 #[.slice A n c, .func (.func 35) #[] #[.pointer (some ⟨ib, 0, none⟩)]] w fun e w' => ∃ k : Int, e = .returned (.int .i64 k) ∧ FstI id L k ∧ Below w.heap.size w w' := by
  have HN := Lib.hid (And.intro hn trivial)
  have HR := Lib.hid (And.intro hr hid)
  clear hn hr hid
  go_enter Try.func61, Try.ntmps61
  go_wp2_with fail
  go_loopw [8] (fun vi wr => ∃ i : Nat, vi = .int .i64 (i : Nat) ∧ i ≤ n ∧ Hid (∀ y ∈ L.take i, y.id ≠ id) ∧ Hid (Below w.heap.size w wr)) (fun vi _ => n - iOfI vi)
  case atStart => exact ⟨0, rfl, by omega, Lib.hid (by simp), Lib.hid (Below.refl _ _)⟩
  case round =>
    obtain ⟨i, rfl, hi, HF, HB⟩ := hrel
    by_cases hin : i < n
    · have hin1 : (i : Int) < (n : Int) := by omega
      obtain ⟨y, hy⟩ : ∃ y, L[i]? = some y := ⟨_, List.getElem?_eq_getElem (by rw [HN.out.1]; exact hin)⟩
      obtain ⟨g, o, rfl, hbl, r0, r1, r2, r3⟩ := (HR.out.1.below HB.out).item hy
      obtain ⟨b, hb⟩ : ∃ b, decide (y.id = id) = b := ⟨_, rfl⟩
      have HY := Lib.hid (And.intro hy hb)
      have hcl := Lib.hid (clo_any y id ib b hb wr ((HB.out.cell (World.block_lt_of_cell? w _ HR.out.2)).trans HR.out.2))
      clear hy hb
      cases b with
      | true =>
        go_wp2_with (go_at_call 35; refine hcl.out.mono ?_; rintro e w2 ⟨rfl, hb2⟩)
        go_ret
        exact ⟨_, rfl, .inr ⟨i, rfl, ⟨y, HY.out.1, by simpa using HY.out.2⟩, HF.out⟩, bl HB.out hb2⟩
      | false =>
        go_wp2_with (go_at_call 35; refine hcl.out.mono ?_; rintro e w2 ⟨rfl, hb2⟩)
        go_round
        case rel => exact ⟨i + 1, by first | rfl | go_num, by omega, Lib.hid (fun z hz => by
          rw [List.take_add_one, HY.out.1] at hz
          rcases List.mem_append.1 hz with h | h
          · exact HF.out z h
          · simp at h; rw [h]; simpa using HY.out.2), Lib.hid (bl HB.out hb2)⟩
        case measure => simp [iOfI]; omega
    · have hin1 : ¬ ((i : Int) < (n : Int)) := by omega
      go_wp2_with fail
      go_ret
      exact ⟨_, rfl, .inl ⟨rfl, fun y hy => HF.out y (by rw [List.take_of_length_le (by rw [HN.out.1]; omega)]; exact hy)⟩, HB.out⟩

/-- Behind DeleteFunc. -/
def DelEnd (w : World) (base : Nat) (l : List It) (e : Ending) (w' : World) : Prop := ∃ A c, e = .returned (.slice A l.length c) ∧ l.length ≤ c ∧ c ≤ maxLen ∧ Rd w' A (itf l) ∧ (∀ ad, A = some ad → base ≤ ad.block) ∧ Below base w w'

set_option maxRecDepth 20000 in
set_option maxHeartbeats 4000000 in
theorem delF_any (L : List It) (v : Value) (n base : Nat) (hn : L.length = n) (hl : n ≤ 1000000) (id : Int) (ib : Nat) (w : World) (hbase : base ≤ w.heap.size) (ho : w.ownsRow base 46 4 v n (itf L)) (hid : w.cell? ⟨ib, 0, none⟩ = some (.int .i64 id)) (hib : ib < base) :
    Calls Try.prog 33 #[v, .func (.func 35) #[] #[.pointer (some ⟨ib, 0, none⟩)]] w (DelEnd w base (woI id L)) := by
  obtain ⟨_, A, cap, rfl, hnc, hcm, hr⟩ := Sl.own ho
  have hlt : ∀ ad, A = some ad → base ≤ ad.block := fun ad hA => by subst hA; exact (ho.lt ad.block rfl).1
  have HN := Lib.hid (And.intro hn (And.intro hlt ho))
  have HIX := Lib.hid (idxF_any L A n cap hn hl id ib w hr hid)
  have HID := Lib.hid hid
  have HR := Lib.hid hr
  clear hn ho hid hr hlt
  go_enter Try.func33, Try.ntmps33
  go_wp2_with fail
  refine HIX.out.mono ?_
  rintro e w2 ⟨k, rfl, hf, hb2⟩
  clear HIX
  rcases hf with ⟨rfl, hno⟩ | ⟨i0, rfl, ⟨y0, hy0, hyid⟩, hno⟩
  · have HNO := Lib.hid hno
    clear hno
    go_wp2_with fail
    go_ret
    rw [woI_none HNO.out]
    exact ⟨A, cap, by rw [HN.out.1]; rfl, by rw [HN.out.1]; exact hnc, hcm, HR.out.below hb2, HN.out.2.1, hb2.mono hbase⟩
  · have hi0 : i0 < n := by have := (List.getElem?_eq_some_iff.1 hy0).1; rw [HN.out.1] at this; exact this
    have hst : L.take i0 = woI id (L.take (i0 + 1)) := by rw [woI_succ id hy0, woI_none hno]; simp [hyid]
    have ho2 := own_belowI HN.out.2.2 hb2
    obtain ⟨g, rfl⟩ : ∃ g, A = some ⟨g, 0, none⟩ := by
      rcases HN.out.2.2.2 with ⟨h0, hn0⟩ | ⟨g', cap', cur, hv, _⟩
      · omega
      · cases hv
        exact ⟨_, rfl⟩
    have hbg : base ≤ g := HN.out.2.1 _ rfl
    have HST := Lib.hid (And.intro hst (And.intro ho2 (hb2.mono hbase)))
    have hne1 : ((i0 : Int) == -1) = false := by simp
    clear hno hy0 hst ho2 hb2 HR
    go_wp2_with fail
    go_loopw [5, 6] (fun vi vj wr => ∃ (i j : Nat) (M : List It), vi = .int .i64 (i : Nat) ∧ vj = .int .i64 (j : Nat) ∧ i < j ∧ j ≤ n ∧ Hid (M.length = n ∧ True) ∧ Hid (M.take i = woI id (L.take j) ∧ True) ∧ Hid (M.drop j = L.drop j ∧ True) ∧ Hid (wr.ownsRow base 46 4 (.slice (some ⟨g, 0, none⟩) n cap) n (itf M)) ∧ Hid (Below base w wr)) (fun _ vj _ => n - iOfI vj)
    case atStart => exact ⟨i0, i0 + 1, L, rfl, by first | rfl | go_num, by omega, by omega, Lib.hid ⟨HN.out.1, trivial⟩, Lib.hid ⟨HST.out.1, trivial⟩, Lib.hid ⟨rfl, trivial⟩, Lib.hid HST.out.2.1, Lib.hid HST.out.2.2⟩
    case round =>
      obtain ⟨i, j, M, rfl, rfl, hij, hj, HM, HT, HD, HO, HB⟩ := hrel
      have hidr : wr.cell? ⟨ib, 0, none⟩ = some (.int .i64 id) := (HB.out.cell hib).trans HID.out
      have HIDR := Lib.hid hidr
      clear hidr
      by_cases hjn : j < n
      · have hjn1 : (j : Int) < (n : Int) := by omega
        obtain ⟨y, hy⟩ : ∃ y, L[j]? = some y := ⟨_, List.getElem?_eq_getElem (by rw [HN.out.1]; exact hjn)⟩
        have hyM : M[j]? = some y := by
          have e := congrArg (fun l => l[0]?) HD.out.1
          simp only [List.getElem?_drop, Nat.add_zero] at e
          rw [e, hy]
        obtain ⟨z, hz⟩ : ∃ z, M[i]? = some z := ⟨_, List.getElem?_eq_getElem (by rw [HM.out.1]; omega)⟩
        obtain ⟨_, A9, c9, hv9, _, _, hr9⟩ := Sl.own HO.out
        cases hv9
        obtain ⟨g1, o1, hA1, hgl, r0, r1, r2, r3⟩ := hr9.item hyM
        cases hA1
        obtain ⟨g2, o2, hA2, _, s0, s1, s2, s3⟩ := hr9.item hz
        cases hA2
        simp only [Nat.zero_add] at r0 r1 r2 r3 s0 s1 s2 s3
        obtain ⟨b, hb⟩ : ∃ b, decide (y.id = id) = b := ⟨_, rfl⟩
        have hsz := Nat.le_trans hbase HB.out.size
        have hba := (Below.refl wr.heap.size wr).alloc (Nat.le_refl _) (.cells #[.string y.p, .int .i64 y.id, .int .i64 y.sz, .string y.sm] 46)
        have hcl := Lib.hid (clo_any y id ib b hb (wr.alloc (.cells #[.string y.p, .int .i64 y.id, .int .i64 y.sz, .string y.sm] 46)) ((hba.cell (World.block_lt_of_cell? wr _ HIDR.out)).trans HIDR.out))
        have hbx := Bk.new wr 46 #[.string y.p, .int .i64 y.id, .int .i64 y.sz, .string y.sm]
        have HY := Lib.hid (And.intro hy (And.intro hb (And.intro hba (And.intro hbx (And.intro (And.intro s0 (And.intro s1 (And.intro s2 s3))) hgl)))))
        clear hy hyM hz hb hr9 hba hbx s0 s1 s2 s3
        cases b with
        | true =>
          clear hgl
          go_wp2_with (go_at_call 35; refine hcl.out.mono ?_; rintro e w4 ⟨rfl, hb4⟩)
          have hb5 := bl HY.out.2.2.1 hb4
          go_round
          case rel => exact ⟨i, j + 1, M, rfl, by first | rfl | go_num, by omega, by omega, HM, Lib.hid ⟨by
            have := woI_succ id HY.out.1
            rw [if_pos (by simpa using HY.out.2.1)] at this
            rw [this, List.append_nil, HT.out.1], trivial⟩, Lib.hid ⟨by
            have e := congrArg (List.drop 1) HD.out.1
            rwa [List.drop_drop, List.drop_drop] at e, trivial⟩, Lib.hid (own_belowI HO.out hb5), Lib.hid (HB.out.trans (hb5.mono hsz))⟩
          case measure => simp [iOfI]; omega
        | false =>
          have hin1 : (i : Int) < (n : Int) := by omega
          have HF4 : Hid (∀ w4, Below (wr.alloc (.cells #[.string y.p, .int .i64 y.id, .int .i64 y.sz, .string y.sm] 46)).heap.size (wr.alloc (.cells #[.string y.p, .int .i64 y.id, .int .i64 y.sz, .string y.sm] 46)) w4 → (w4.cell? ⟨wr.heap.size, 0, none⟩ = some (.string y.p) ∧ w4.cell? ⟨wr.heap.size, 1, none⟩ = some (.int .i64 y.id) ∧ w4.cell? ⟨wr.heap.size, 2, none⟩ = some (.int .i64 y.sz) ∧ w4.cell? ⟨wr.heap.size, 3, none⟩ = some (.string y.sm)) ∧ (w4.cell? ⟨g, i * 4, none⟩ = some (.string z.p) ∧ w4.cell? ⟨g, i * 4 + 1, none⟩ = some (.int .i64 z.id) ∧ w4.cell? ⟨g, i * 4 + 2, none⟩ = some (.int .i64 z.sz) ∧ w4.cell? ⟨g, i * 4 + 3, none⟩ = some (.string z.sm)) ∧ w4.frozen? ⟨g, i * 4, none⟩ = false ∧ w4.frozen? ⟨g, i * 4 + 1, none⟩ = false ∧ w4.frozen? ⟨g, i * 4 + 2, none⟩ = false ∧ w4.frozen? ⟨g, i * 4 + 3, none⟩ = false) := Lib.hid fun w4 hb4 => by
            have hb5 := bl HY.out.2.2.1 hb4
            have hb6 := HY.out.2.2.2.1.below' hb4
            have ho5 := own_belowI HO.out hb5
            exact ⟨⟨hb6.cell_ 0 _ rfl, hb6.cell_ 1 _ rfl, hb6.cell_ 2 _ rfl, hb6.cell_ 3 _ rfl⟩, ⟨(hb5.cell (World.block_lt_of_cell? wr _ HY.out.2.2.2.2.1.1)).trans HY.out.2.2.2.2.1.1, (hb5.cell (World.block_lt_of_cell? wr _ HY.out.2.2.2.2.1.2.1)).trans HY.out.2.2.2.2.1.2.1, (hb5.cell (World.block_lt_of_cell? wr _ HY.out.2.2.2.2.1.2.2.1)).trans HY.out.2.2.2.2.1.2.2.1, (hb5.cell (World.block_lt_of_cell? wr _ HY.out.2.2.2.2.1.2.2.2)).trans HY.out.2.2.2.2.1.2.2.2⟩, own_free ho5 _, own_free ho5 _, own_free ho5 _, own_free ho5 _⟩
          go_wp2_with (go_at_call 35; refine hcl.out.mono ?_; rintro e w4 ⟨rfl, hb4⟩; have hb5 := bl HY.out.2.2.1 hb4; obtain ⟨⟨y0, y1, y2, y3⟩, ⟨s0, s1, s2, s3⟩, f0, f1, f2, f3⟩ := HF4.out w4 hb4)
          have ho6 := own_put (own_belowI HO.out hb5) i y
          have hb7 : Below base w ((((w4.setCell ⟨g, i * 4, none⟩ (.string y.p)).setCell ⟨g, i * 4 + 1, none⟩ (.int .i64 y.id)).setCell ⟨g, i * 4 + 2, none⟩ (.int .i64 y.sz)).setCell ⟨g, i * 4 + 3, none⟩ (.string y.sm)) := ((((HB.out.trans (hb5.mono hsz)).setCell (p := ⟨g, i * 4, none⟩) hbg _).setCell (p := ⟨g, i * 4 + 1, none⟩) hbg _).setCell (p := ⟨g, i * 4 + 2, none⟩) hbg _).setCell (p := ⟨g, i * 4 + 3, none⟩) hbg _
          have HE := Lib.hid (And.intro ho6 hb7)
          have hrelN : Hid ((M.set i y).take (i + 1) = woI id (L.take (j + 1)) ∧ (M.set i y).drop (j + 1) = L.drop (j + 1)) := Lib.hid ⟨by
            have := woI_succ id HY.out.1
            rw [if_neg (by simpa using HY.out.2.1)] at this
            rw [this, ← HT.out.1, List.take_add_one, List.getElem?_set_self (by rw [HM.out.1]; omega), List.take_set_of_le (Nat.le_refl _)]
            rfl, by
            have e := congrArg (List.drop 1) HD.out.1
            rw [List.drop_drop, List.drop_drop] at e
            rw [List.drop_set_of_lt (by omega)]
            exact e⟩
          first
            | (go_round
               case rel => exact ⟨i + 1, j + 1, M.set i y, by first | rfl | go_num, by first | rfl | go_num, by omega, by omega, Lib.hid ⟨by rw [List.length_set]; exact HM.out.1, trivial⟩, Lib.hid ⟨hrelN.out.1, trivial⟩, Lib.hid ⟨hrelN.out.2, trivial⟩, Lib.hid HE.out.1, Lib.hid HE.out.2⟩
               case measure => simp [iOfI]; omega)
            | exact ⟨⟨i + 1, j + 1, M.set i y, by first | rfl | go_num, by first | rfl | go_num, by omega, by omega, Lib.hid ⟨by rw [List.length_set]; exact HM.out.1, trivial⟩, Lib.hid ⟨hrelN.out.1, trivial⟩, Lib.hid ⟨hrelN.out.2, trivial⟩, Lib.hid HE.out.1, Lib.hid HE.out.2⟩, by simp [iOfI]; omega⟩
      · obtain rfl : j = n := by omega
        have hic : ¬ (cap = i) := by omega
        have hic2 : i ≤ j := by omega
        have hic3 : i ≤ cap := by omega
        rcases HO.out.2 with ⟨h0, hn0⟩ | ⟨g', cap', cur, hv, _, hg, _, _, hcs, htk⟩
        · omega
        · cases hv
          have HG := Lib.hid (And.intro hg (And.intro hcs htk))
          obtain ⟨Z, hZ⟩ : ∃ Z, (Builtin.zeroCells (Value.agg #[.string ⟨#[]⟩, .int .i64 0, .int .i64 0, .string ⟨#[]⟩]).cells (j - i)).toList = Z := ⟨_, rfl⟩
          have hZ1 : ∀ v ∈ Z, v.oneCell' = true := by rw [← hZ]; exact zeros_one _
          have hZ2 : Z.length = (j - i) * 4 := by rw [← hZ]; exact zeros_len _
          have HZ := Lib.hid (And.intro hZ (And.intro hZ1 hZ2))
          clear hg hcs htk hZ hZ1 hZ2
          go_wp2_with ((refine wpList_clearK rfl (.tmp 38) 23 rfl 46 (.agg #[.string ⟨#[]⟩, .int .i64 0, .int .i64 0, .string ⟨#[]⟩]) 4 48 Try.underlying23 Try.info46 g (i * 4) (j - i) (cap - i) (by rfl) (by omega) cur 46 HG.out.1 Z HZ.out.1 (by rw [HZ.out.2.2, HG.out.2.1]; omega) HZ.out.2.1 base w HB.out hbg ?_); intro w5 hg5 hb5)
          go_ret
          have hwl : (woI id L).length = i := by
            have e := congrArg List.length HT.out.1
            rw [List.length_take, HM.out.1, List.take_of_length_le (by rw [HN.out.1]; omega)] at e
            omega
          refine ⟨some ⟨g, 0, none⟩, cap, by rw [hwl]; rfl, by rw [hwl]; omega, hcm, ?_, fun ad hA => by cases hA; exact hbg, hb5⟩
          have e2 : itf (woI id L) = (splice cur.toList (i * 4) Z).take (i * 4) := by
            rw [splice_head _ _ _ _ (Nat.le_refl _) (by rw [Array.length_toList, HG.out.2.1]; omega)]
            have e3 := HT.out.1
            rw [List.take_of_length_le (l := L) (by rw [HN.out.1]; omega)] at e3
            rw [← e3, ← itf_take, ← HG.out.2.2, List.take_take, Nat.min_eq_left (by omega)]
          rw [e2]
          exact (show Bk w5 g 46 _ from hg5.out).rd (i * 4)
end Go.Proofs.Ytnhbkfefpkocaaa
namespace Go.Proofs.Ytnhbkfefpkocaaa
open Go.RowKit Go.Sort

theorem delF_is (L L2 : List It) (v : Value) (n base : Nat) (hn : L.length = n) (hl : n ≤ 1000000) (id : Int) (h2 : woI id L = L2) (ib : Nat) (w : World) (hbase : base ≤ w.heap.size) (ho : w.ownsRow base 46 4 v n (itf L)) (hid : w.cell? ⟨ib, 0, none⟩ = some (.int .i64 id)) (hib : ib < base) :
    Calls Try.prog 33 #[v, .func (.func 35) #[] #[.pointer (some ⟨ib, 0, none⟩)]] w (DelEnd w base L2) := by
  subst h2
  exact delF_any L v n base hn hl id ib w hbase ho hid hib

set_option maxRecDepth 20000 in
set_option maxHeartbeats 2000000 in
theorem without_any (L : List It) (A : Option Addr) (n c : Nat) (hn : L.length = n) (hl : n ≤ 1000000) (id : Int) (w : World) (hr : Rd w A (itf L)) :
    Calls Try.prog 10 #[.agg #[.slice A n c], .int .i64 id] w fun e w' => ∃ v, e = .returned (.agg #[v]) ∧ SlF w w' v (woI id L) ∧ Below w.heap.size w w' := by
  have HN := Lib.hid (And.intro hn trivial)
  obtain ⟨L2, hL2⟩ : ∃ L2, woI id L = L2 := ⟨_, rfl⟩
  have HR := Lib.hid (And.intro hr hL2)
  rw [hL2]
  clear hn hr hL2
  obtain ⟨w0, hw0⟩ : ∃ w0, ((w.alloc (.cells #[.slice A n c] 25)).alloc (.cells #[.int .i64 id] 3)).alloc (.cells #[.slice none 0 0] 25) = w0 := ⟨_, rfl⟩
  have hs0 : w0.heap.size = w.heap.size + 3 := by rw [← hw0]; simp
  have hb0 : Below w.heap.size w w0 := by rw [← hw0]; exact (((Below.refl _ w).alloc (Nat.le_refl _) _).alloc (by simp only [World.size_alloc]; omega) _).alloc (by simp only [World.size_alloc]; omega) _
  have hk1 : Bk w0 (w.heap.size + 1) 3 #[.int .i64 id] := by
    rw [← hw0]
    have := (Bk.new (w.alloc (.cells #[.slice A n c] 25)) 3 #[.int .i64 id]).alloc (.cells #[.slice none 0 0] 25)
    rwa [World.size_alloc] at this
  have hk2 : Bk w0 (w.heap.size + 2) 25 #[.slice none 0 0] := by
    rw [← hw0]
    have := Bk.new ((w.alloc (.cells #[.slice A n c] 25)).alloc (.cells #[.int .i64 id] 3)) 25 #[.slice none 0 0]
    rwa [World.size_alloc, World.size_alloc] at this
  have HW := Lib.hid (And.intro hs0 (And.intro hb0 (And.intro hk1 hk2)))
  have HW0 := Lib.hid hw0
  clear hs0 hb0 hk1 hk2 hw0
  go_enter Try.func10, Try.ntmps10
  go_wp2_with fail
  rw [HW0.out]
  clear HW0
  refine (cloneI_any L A n c HN.out.1 hl w0 (HR.out.1.below HW.out.2.1)).mono ?_
  rintro e w3 ⟨v3, rfl, ho3, hb3⟩
  have i3 := (HW.out.2.2.1.below' hb3).cell_ 0 (.int .i64 id) rfl
  have HD := Lib.hid (delF_is L L2 v3 n w0.heap.size HN.out.1 hl id HR.out.2 (w.heap.size + 1) w3 hb3.size (by rw [← HN.out.1]; exact ho3) i3 (by have := HW.out.1; omega))
  have HB3 := Lib.hid (And.intro hb3 (HW.out.2.2.2.below' hb3))
  clear ho3 hb3 i3
  go_wp2_with (go_at_call 33; refine HD.out.mono ?_; rintro e w4 ⟨B, d, rfl, hn4, hm4, hr4, hf4, hb4⟩; have hk4 := HW.out.2.2.2.below' (HB3.out.1.trans hb4); have r0 := hk4.cell_ 0 (.slice none 0 0) rfl; have f0 := hk4.frozen 0)
  have hcc := World.cell?_setCell_same w4 ⟨w.heap.size + 2, 0, none⟩ (.slice B L2.length d) r0
  refine bodyPost_ret (v := .agg #[.slice B L2.length d]) (by simp [results, Try.results10, go_sem, hcc]) rfl ?_
  have hb5 := HW.out.2.1.trans ((HB3.out.1.trans hb4).mono (by have := HW.out.1; omega))
  exact ⟨_, rfl, ⟨B, d, rfl, hn4, hm4, hr4.only (only_set w4 (w.heap.size + 2) 0 _) (Off.fresh hf4 (by have := HW.out.1; omega)), fun ad hA => by have := hf4 ad hA; have := HW.out.1; omega⟩, hb5.setCell (p := ⟨w.heap.size + 2, 0, none⟩) (by simp) _⟩

set_option maxRecDepth 20000 in
set_option maxHeartbeats 2000000 in
theorem rwithout_any (L : List It) (A : Option Addr) (n c : Nat) (hn : L.length = n) (hl : n ≤ 1000000) (id : Int) (w : World) (hr : Rd w A (itf L)) :
    Calls Try.prog 13 #[.slice A n c, .int .i64 id] w fun e w' => ∃ B d, e = .returned (.slice B (woI id L).length d) ∧ (woI id L).length ≤ d ∧ d ≤ maxLen ∧ Rd w' B (itf (woI id L)) ∧ Below w.heap.size w w' := by
  have HN := Lib.hid (And.intro hn trivial)
  have HR := Lib.hid hr
  clear hn hr
  go_enter Try.func13, Try.ntmps13
  go_wp2_with fail
  go_loopw [5, 6] (fun vo vi wr => ∃ (i k : Nat), vi = .int .i64 (i : Nat) ∧ i ≤ n ∧ k ≤ i ∧ Hid ((woI id (L.take i)).length = k ∧ True) ∧ Hid (wr.ownsRow w.heap.size 46 4 vo k (itf (woI id (L.take i)))) ∧ Hid (Below w.heap.size w wr)) (fun _ vi _ => n - iOfI vi)
  case atStart => exact ⟨0, 0, rfl, by omega, by omega, Lib.hid ⟨rfl, trivial⟩, Lib.hid ⟨rfl, Or.inl ⟨rfl, rfl⟩⟩, Lib.hid (Below.refl _ _)⟩
  case round =>
    obtain ⟨i, k, rfl, hi, hki, HK, HO, HB⟩ := hrel
    by_cases hin : i < n
    · have hin1 : (i : Int) < (n : Int) := by omega
      obtain ⟨y, hy⟩ : ∃ y, L[i]? = some y := ⟨_, List.getElem?_eq_getElem (by rw [HN.out.1]; exact hin)⟩
      obtain ⟨g, o, rfl, hbl, r0, r1, r2, r3⟩ := (HR.out.below HB.out).item hy
      have hs := woI_succ id hy
      have HY := Lib.hid hs
      clear hy hs hbl
      by_cases hyi : y.id = id
      · have hs2 : woI id (L.take (i + 1)) = woI id (L.take i) := by rw [HY.out, if_pos hyi, List.append_nil]
        have HS2 := Lib.hid (And.intro hs2 trivial)
        have hne : (y.id != id) = false := by simp [hyi]
        clear hs2
        have HYI := Lib.hid (And.intro hyi trivial)
        clear hyi
        go_wp2_with fail
        go_round
        case rel => exact ⟨i + 1, k, by first | rfl | go_num, by omega, by omega, by rw [HS2.out.1]; exact HK, by rw [HS2.out.1]; exact HO, HB⟩
        case measure => simp [iOfI]; omega
      · have hs2 : woI id (L.take (i + 1)) = woI id (L.take i) ++ [y] := by rw [HY.out, if_neg hyi]
        have HS2 := Lib.hid (And.intro hs2 trivial)
        have hne : (y.id != id) = true := by simp [hyi]
        have hone : ∀ u ∈ (#[.string y.p, .int .i64 y.id, .int .i64 y.sz, .string y.sm] : Array Value).toList, u.oneCell' = true := fun u hu => by
          simp at hu
          rcases hu with rfl | rfl | rfl | rfl <;> rfl
        have HE := Lib.hid (And.intro hone HB.out.size)
        clear hs2 hone hyi
        go_wp2_with (at_builtin; go_must (refine wpList_append_new _ rfl (.tmp 20) (.tmp 25) 23 rfl w.heap.size 46 4 48 el_item _ _ _ HO.out (by rfl) _ (by rfl) rfl HE.out.1 (by unfold maxLen; omega) (by omega) HE.out.2 ?_); intro v5 w5 ho5 hb5)
        have ho6 : w5.ownsRow w.heap.size 46 4 v5 (k + 1) (itf (woI id (L.take (i + 1)))) := by
          rw [HS2.out.1, itf_app]
          exact ho5
        have H6 := Lib.hid (And.intro ho6 (HB.out.trans hb5))
        clear ho5 hb5 ho6
        first
          | (go_round
             case rel => exact ⟨i + 1, k + 1, by first | rfl | go_num, by omega, by omega, Lib.hid ⟨by rw [HS2.out.1, List.length_append, HK.out.1]; rfl, trivial⟩, Lib.hid H6.out.1, Lib.hid H6.out.2⟩
             case measure => simp [iOfI]; omega)
          | exact ⟨⟨i + 1, k + 1, by first | rfl | go_num, by omega, by omega, Lib.hid ⟨by rw [HS2.out.1, List.length_append, HK.out.1]; rfl, trivial⟩, Lib.hid H6.out.1, Lib.hid H6.out.2⟩, by simp [iOfI]; omega⟩
    · obtain rfl : i = n := by omega
      have htk : L.take i = L := List.take_of_length_le (by rw [HN.out.1]; omega)
      have hin1 : ¬ ((i : Int) < (i : Int)) := by omega
      have HTK := Lib.hid (And.intro htk trivial)
      clear htk
      go_wp2_with fail
      go_ret
      obtain ⟨_, B, d, rfl, h1, h2, h3⟩ := Sl.own HO.out
      have hk := HK.out.1
      rw [HTK.out.1] at h3 hk
      exact ⟨B, d, by rw [hk]; rfl, by rw [hk]; exact h1, h2, h3, HB.out⟩
end Go.Proofs.Ytnhbkfefpkocaaa
namespace Go.Proofs.Ytnhbkfefpkocaaa
open Go.RowKit Go.Sort

theorem without_is (L L2 : List It) (A : Option Addr) (n c : Nat) (hn : L.length = n) (hl : n ≤ 1000000) (id : Int) (h2 : woI id L = L2) (w : World) (hr : Rd w A (itf L)) :
    Calls Try.prog 10 #[.agg #[.slice A n c], .int .i64 id] w fun e w' => ∃ v, e = .returned (.agg #[v]) ∧ SlF w w' v L2 ∧ Below w.heap.size w w' := by
  subst h2
  exact without_any L A n c hn hl id w hr
theorem rwithout_is (L L2 : List It) (A : Option Addr) (n c : Nat) (hn : L.length = n) (hl : n ≤ 1000000) (id : Int) (h2 : woI id L = L2) (w : World) (hr : Rd w A (itf L)) :
    Calls Try.prog 13 #[.slice A n c, .int .i64 id] w fun e w' => ∃ B d, e = .returned (.slice B L2.length d) ∧ L2.length ≤ d ∧ d ≤ maxLen ∧ Rd w' B (itf L2) ∧ Below w.heap.size w w' := by
  subst h2
  exact rwithout_any L A n c hn hl id w hr

set_option maxRecDepth 20000 in
set_option maxHeartbeats 4000000 in
theorem indexWith_walk (A0 : Option Addr) (n0 c0 : Nat) (P0 : List Pt) (id : Int) (w : World) (hn : P0.length = n0) (hnb : n0 ≤ 9223372036854775807) (hr : Rd w A0 (pf P0)) (hok : ∀ x ∈ P0, PtOk w x) (_h1 : -9223372036854775808 ≤ id) (_h2 : id ≤ 9223372036854775807) :
    Calls Try.prog 3 #[.slice A0 n0 c0, .int .i64 id] w fun e w' => e = .returned (.bool true) ∧ Below w.heap.size w w' := by
  have HOF := Lib.hid (of_any P0 A0 n0 c0 hn hnb w hr hok)
  clear hn hr hok _h1 _h2
  go_enter Try.func3, Try.ntmps3
  go_wp2_with fail
  refine HOF.out.mono ?_
  rintro e w2 ⟨L, A, B, c, d, rfl, hc, hcm, hd, hdm, hrA, hrB, hfA, hfB, hG, hb2⟩
  clear HOF
  have hn480 := hG.2.2
  obtain ⟨n, hn⟩ : ∃ n, L.length = n := ⟨_, rfl⟩
  rw [hn] at hc hd hn480 ⊢
  obtain ⟨L2, hL2⟩ : ∃ L2, woI id L = L2 := ⟨_, rfl⟩
  have hl2 : L2.length ≤ 480 := by rw [← hL2]; exact Nat.le_trans (List.length_filter_le _ _) (by omega)
  have HA := Lib.hid (And.intro hn (And.intro hrA (And.intro hrB (And.intro hL2 hl2))))
  obtain ⟨w3, hw3⟩ : ∃ w3, w2.alloc (.cells #[.slice A n c] 25) = w3 := ⟨_, rfl⟩
  have hb3 : Below w2.heap.size w2 w3 := by rw [← hw3]; exact (Below.refl _ _).alloc (Nat.le_refl _) _
  have hk3 : Bk w3 w2.heap.size 25 #[.slice A n c] := by rw [← hw3]; exact Bk.new _ _ _
  have x3 := hk3.cell_ 0 (.slice A n c) rfl
  have H3 := Lib.hid (And.intro (bl hb2 hb3) (And.intro (hrA.below hb3) (And.intro (hrB.below hb3) hk3)))
  have HW3 := Lib.hid hw3
  clear hn hrA hrB hfA hfB hG hb2 hL2 hl2 hb3 hk3 hw3
  go_wp2_with fail
  rw [HW3.out]
  clear HW3
  refine (without_is L L2 A n c HA.out.1 (by omega) id HA.out.2.2.2.1 w3 H3.out.2.1).mono ?_
  rintro e w4 ⟨v4, rfl, ⟨A4, c4, rfl, hc4, hm4, hr4, hf4⟩, hb4⟩
  obtain ⟨n4, hn4⟩ : ∃ n4, L2.length = n4 := ⟨_, rfl⟩
  have hn4b : n4 ≤ 480 := by have := HA.out.2.2.2.2; omega
  rw [hn4] at hc4 ⊢
  obtain ⟨w5, hw5⟩ : ∃ w5, w4.alloc (.cells #[.slice A4 n4 c4] 25) = w5 := ⟨_, rfl⟩
  have hb5 : Below w4.heap.size w4 w5 := by rw [← hw5]; exact (Below.refl _ _).alloc (Nat.le_refl _) _
  have hk5 : Bk w5 w4.heap.size 25 #[.slice A4 n4 c4] := by rw [← hw5]; exact Bk.new _ _ _
  have x5 := hk5.cell_ 0 (.slice A4 n4 c4) rfl
  have H5 := Lib.hid (And.intro (bl hb4 hb5) (And.intro (hr4.below hb5) hn4))
  have HW5 := Lib.hid hw5
  clear hr4 hf4 hb4 hb5 hk5 hw5 hn4 x3
  go_wp2_with fail
  rw [HW5.out]
  clear HW5
  refine (list_any L2 A4 n4 c4 H5.out.2.2 (by omega) w5 H5.out.2.1).mono ?_
  rintro e w6 ⟨B6, d6, rfl, h61, h62, hr6, hb6⟩
  have H6 := Lib.hid (And.intro (bl H5.out.1 hb6) hr6)
  clear hr6 hb6 x5
  go_wp2_with fail
  refine (rwithout_is L L2 B n d HA.out.1 (by omega) id HA.out.2.2.2.1 w6 (H3.out.2.2.1.below H6.out.1)).mono ?_
  rw [H5.out.2.2]
  rintro e w7 ⟨B7, d7, rfl, h71, h72, hr7, hb7⟩
  have H7 := Lib.hid (And.intro (bl H6.out.1 hb7) (And.intro (H6.out.2.below hb7) hr7))
  clear hr7 hb7
  go_wp2_with fail
  refine (sameI_true L2 B6 B7 n4 d6 d7 w7 H5.out.2.2 (by omega) H7.out.2.1 H7.out.2.2).mono ?_
  rintro e w8 ⟨rfl, hb8⟩
  have x8 := (H3.out.2.2.2.below' (bl H7.out.1 hb8)).cell_ 0 (.slice A n c) rfl
  have H8 := Lib.hid (bl H7.out.1 hb8)
  clear hb8
  go_wp2_with fail
  refine (list_any L A n c HA.out.1 (by omega) w8 (H3.out.2.1.below H8.out)).mono ?_
  rintro e w9 ⟨B9, d9, rfl, h91, h92, hr9, hb9⟩
  have H9 := Lib.hid (And.intro (bl H8.out hb9) hr9)
  clear hr9 hb9 x8
  go_wp2_with fail
  refine (sameI_true L B9 B n d9 d w9 HA.out.1 (by omega) H9.out.2 (H3.out.2.2.1.below H9.out.1)).mono ?_
  rintro e w10 ⟨rfl, hb10⟩
  have H10 := Lib.hid (bl H9.out.1 hb10)
  clear hb10
  go_wp2_with fail
  refine (awakeI_any w10).mono ?_
  rintro e w11 ⟨rfl, hb11⟩
  have H11 := Lib.hid (bl H3.out.1 (bl H10.out hb11))
  clear hb11
  go_wp2_with fail
  go_ret
  exact ⟨rfl, H11.out⟩
end Go.Proofs.Ytnhbkfefpkocaaa
