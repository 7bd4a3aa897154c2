/-
  The walk of IndexAsks.
-/
import Derived.Test.YtnhbkfefpkocaaaIxQ
import Derived.Test.YtnhbkfefpkocaaaIxS
import Derived.Test.YtnhbkfefpkocaaaIxU
namespace Go.Proofs.Ytnhbkfefpkocaaa
open Go.RowKit Go.Sort

theorem srtI_uniq {L : List It} (hS : SrtI L) {i j : Nat} {x y : It} (hi : L[i]? = some x) (hj : L[j]? = some y) (he : x.p = y.p) : i = j := by
  have hil := (List.getElem?_eq_some_iff.1 hi).1
  have hjl := (List.getElem?_eq_some_iff.1 hj).1
  have key : ∀ (a b : Nat) (u v : It), L[a]? = some u → L[b]? = some v → u.p = v.p → a < b → False := fun a b u v ha hb h hab => by
    have := List.pairwise_iff_getElem.1 hS a b (List.getElem?_eq_some_iff.1 ha).1 (List.getElem?_eq_some_iff.1 hb).1 hab
    rw [(List.getElem?_eq_some_iff.1 ha).2, (List.getElem?_eq_some_iff.1 hb).2, h] at this
    exact List.lt_irrefl _ this
  rcases Nat.lt_trichotomy i j with h | h | h
  · exact (key i j x y hi hj he h).elim
  · exact h
  · exact (key j i y x hj hi he.symm h).elim
theorem find_cases {L : List It} (hS : SrtI L) (p : ByteArray) :
    (∃ (i : Nat) (x : It), foundI p L = true ∧ findI L p = x ∧ L[i]? = some x ∧ ∀ k, FndI p L k → k = (i : Int)) ∨ (foundI p L = false ∧ findI L p = default ∧ ∀ k, FndI p L k → k = -1) := by
  cases hf : foundI p L with
  | true =>
    left
    have hf2 := hf
    unfold foundI at hf2
    obtain ⟨x, hx, hxp⟩ := of_decide_eq_true hf2
    refine ⟨posI p L, x, rfl, ?_, hx, fun k hk => ?_⟩
    · unfold findI
      rw [if_pos hf, List.getD_eq_getElem?_getD, hx]
      rfl
    · rcases hk with ⟨_, h⟩ | ⟨i, rfl, ⟨y, hy, hyp⟩, _⟩
      · exact absurd hxp (h x (List.mem_of_getElem? hx))
      · rw [srtI_uniq hS hy hx (hyp.trans hxp.symm)]
  | false =>
    right
    refine ⟨rfl, by unfold findI; rw [hf]; rfl, fun k hk => ?_⟩
    rcases hk with ⟨h, _⟩ | ⟨i, rfl, ⟨y, hy, hyp⟩, _⟩
    · exact h
    · exfalso
      have hpos : posI p L = i := posI_eq p L i (Nat.le_of_lt (List.getElem?_eq_some_iff.1 hy).1) (fun t x ht hx => by
        have := List.pairwise_iff_getElem.1 hS t i (List.getElem?_eq_some_iff.1 hx).1 (List.getElem?_eq_some_iff.1 hy).1 ht
        rw [(List.getElem?_eq_some_iff.1 hx).2, (List.getElem?_eq_some_iff.1 hy).2, hyp] at this
        exact this) (fun x hx => by rw [hy] at hx; cases hx; rw [hyp]; exact List.lt_irrefl _)
      have : foundI p L = true := by unfold foundI; rw [hpos]; exact decide_eq_true ⟨y, hy, hyp⟩
      rw [hf] at this
      cases this
theorem xunder_both (L : List It) (A : Option Addr) (n c : Nat) (hn : L.length = n) (hl : n ≤ 1000000) (hS : SrtI L) (hz : ∀ y ∈ L, y.p.size ≤ 100000000) (f : ByteArray) (hf : f.size ≤ 1000000) (L2 : List It) (h2 : undR f L = L2) (w : World) (hr : Rd w A (itf L)) :
    Calls Try.prog 26 #[.agg #[.slice A n c], .string f] w (SlE w L2) := by
  subst h2
  by_cases h : f = ⟨#[]⟩
  · subst h
    refine (xunder_all L A n c hn hl w hr).mono fun e w' h => ?_
    obtain ⟨B, d, rfl, h1, h2, h3, h4⟩ := h
    have e : undR ⟨#[]⟩ L = L := by unfold undR; rw [if_pos rfl]
    rw [e]
    exact ⟨B, d, by rw [hn], by rw [hn]; exact h1, h2, h3, h4⟩
  · have e : undR f L = undI f L := by unfold undR; rw [if_neg h]
    rw [e]
    exact xunder_any L A n c hn hl hS hz f hf h w hr
theorem runder_is (L : List It) (A : Option Addr) (n c : Nat) (hn : L.length = n) (hl : n ≤ 1000000) (hz : ∀ y ∈ L, y.p.size ≤ 100000000) (f : ByteArray) (hf : f.size ≤ 1000000) (L2 : List It) (h2 : undR f L = L2) (w : World) (hr : Rd w A (itf L)) :
    Calls Try.prog 27 #[.slice A n c, .string f] w (SlE w L2) := by
  subst h2
  exact runder_any L A n c hn hl hz f hf w hr
theorem xarc_is (L : List It) (A : Option Addr) (n c : Nat) (hn : L.length = n) (hl : n ≤ 1000000) (o : List Int) (h2 : arcI L = o) (w : World) (hr : Rd w A (itf L)) :
    Calls Try.prog 29 #[.agg #[.slice A n c]] w (IntsE w o) := by
  subst h2
  exact xarc_any L A n c hn hl w hr
theorem rarc_is (L : List It) (A : Option Addr) (n c : Nat) (hn : L.length = n) (hl : n ≤ 1000000) (hp : ∀ y ∈ L, 0 < y.id) (o : List Int) (h2 : arcI L = o) (w : World) (hr : Rd w A (itf L)) :
    Calls Try.prog 30 #[.slice A n c] w (IntsE w o) := by
  subst h2
  exact rarc_any L A n c hn hl hp w hr
theorem undR_len (f : ByteArray) (L : List It) : (undR f L).length ≤ L.length := by
  unfold undR undI
  split
  · exact Nat.le_refl _
  · exact List.length_filter_le _ _

theorem Bk.drewN {w : World} {g : Nat} {t : TypeId} {cs : Array Value} (h : Bk w g t cs) (m : Nat) : Bk (w.drewN m) g t cs := h
set_option maxRecDepth 20000 in
set_option maxHeartbeats 40000000 in
theorem indexAsks_walk (A0 : Option Addr) (n0 c0 : Nat) (P0 : List Pt) (p : ByteArray) (w : World) (hn : P0.length = n0) (hnb : n0 ≤ 9223372036854775807) (hr : Rd w A0 (pf P0)) (hok : ∀ x ∈ P0, PtOk w x) (hpz : p.size ≤ 140737488351232) :
    Calls Try.prog 8 #[.slice A0 n0 c0, .string p] w fun e w' => e = .returned (.bool true) ∧ Below w.heap.size w w' := by
  have mixed : Try.prog.follows Departure.mixedOrders = true := by kernel_rfl
  have HOF := Lib.hid (of_any P0 A0 n0 c0 hn hnb w hr hok)
  clear hn hr hok
  go_enter Try.func8, Try.ntmps8
  go_wp2_with fail
  refine HOF.out.mono ?_
  rintro e w2 ⟨L, A, B, c, d, rfl, hc, hcm, hd, hdm, hrA, hrB, hfA, hfB, hG, hb2⟩
  clear HOF
  have hn480 := hG.2.2
  obtain ⟨n, hn⟩ : ∃ n, L.length = n := ⟨_, rfl⟩
  rw [hn] at hc hd hn480 ⊢
  have hz : ∀ y ∈ L, y.p.size ≤ 100000000 := fun y hy => by have := (hG.2.1 y hy).2.1; omega
  have hid : ∀ y ∈ L, 0 < y.id := fun y hy => by have := (hG.2.1 y hy).2.2.1; omega
  obtain ⟨w3, hw3⟩ : ∃ w3, w2.alloc (.cells #[.slice A n c] 25) = w3 := ⟨_, rfl⟩
  have hb3 : Below w2.heap.size w2 w3 := by rw [← hw3]; exact (Below.refl _ _).alloc (Nat.le_refl _) _
  have hk3 : Bk w3 w2.heap.size 25 #[.slice A n c] := by rw [← hw3]; exact Bk.new _ _ _
  have x3 := hk3.cell_ 0 (.slice A n c) rfl
  have HA := Lib.hid (And.intro hn (And.intro hG.1 (And.intro hz hid)))
  have H3 := Lib.hid (And.intro (bl hb2 hb3) (And.intro (hrA.below hb3) (And.intro (hrB.below hb3) hk3)))
  have HW3 := Lib.hid hw3
  clear hn hrA hrB hfA hfB hG hb2 hb3 hk3 hw3 hz hid
  obtain ⟨p1, hp1, hp1z⟩ : ∃ p1 : ByteArray, (if 5000 < p.size then p.extract 0 5000 else p) = p1 ∧ p1.size ≤ 5000 := ⟨_, rfl, by
    split
    · rw [ByteArray.size_extract]; omega
    · omega⟩
  obtain ⟨fx, hfx⟩ : ∃ fx, findI L p1 = fx := ⟨_, rfl⟩
  obtain ⟨fb, hfb⟩ : ∃ fb, foundI p1 L = fb := ⟨_, rfl⟩
  have hcs := find_cases HA.out.2.1 p1
  rw [hfx, hfb] at hcs
  obtain ⟨L3, hL3⟩ : ∃ L3, undR p1 L = L3 := ⟨_, rfl⟩
  have hl3 := undR_len p1 L
  rw [hL3, HA.out.1] at hl3
  obtain ⟨o, ho⟩ : ∃ o, arcI L = o := ⟨_, rfl⟩
  have hol := arcI_len L
  rw [ho, HA.out.1] at hol
  have hall : undR ⟨#[]⟩ L = L := by unfold undR; rw [if_pos rfl]
  have HF := Lib.hid (And.intro hfx (And.intro hfb (And.intro hcs (And.intro hL3 (And.intro ho (And.intro hall (And.intro hl3 hol)))))))
  clear hfx hfb hcs hL3 hl3 ho hol hall
  by_cases hp5 : 5000 < p.size
  case' pos =>
    have hp51 : (5000 : Int) < (p.size : Int) := by omega
    have hp52 : (5000 : Int) ≤ (p.size : Int) := by omega
    have hp53 : 5000 ≤ p.size := by omega
    rw [if_pos hp5] at hp1
    have HP1 := Lib.hid hp1
    clear hp1 hp5
    go_wp2_with fail
    rw [HW3.out, HP1.out]
    clear HW3 HP1
  case' neg =>
    have hp51 : ¬ ((5000 : Int) < (p.size : Int)) := by omega
    rw [if_neg hp5] at hp1
    subst p
    clear hp5
    go_wp2_with fail
    rw [HW3.out]
    clear HW3
  all_goals
    refine (find_any L A n c HA.out.1 (by omega) HA.out.2.1 p1 fx fb HF.out.1 HF.out.2.1 w3 H3.out.2.1).mono ?_
    rintro e w4 ⟨rfl, hb4⟩
    obtain ⟨w5, hw5⟩ : ∃ w5, w4.alloc (.cells #[.string fx.p, .int .i64 fx.id, .int .i64 fx.sz, .string fx.sm] 46) = w5 := ⟨_, rfl⟩
    have hb5 : Below w3.heap.size w3 w5 := bl hb4 (by rw [← hw5]; exact (Below.refl _ _).alloc (Nat.le_refl _) _)
    have hk5 : Bk w5 w4.heap.size 46 #[.string fx.p, .int .i64 fx.id, .int .i64 fx.sz, .string fx.sm] := by rw [← hw5]; exact Bk.new _ _ _
    have H5 := Lib.hid (And.intro hb5 hk5)
    have HW5 := Lib.hid hw5
    clear hb4 hb5 hk5 hw5 x3
    go_wp2_with fail
    rw [HW5.out]
    clear HW5
    refine (rfind_any L B n d HA.out.1 (by omega) p1 w5 (H3.out.2.2.1.below H5.out.1)).mono ?_
    rintro e w6 ⟨k, rfl, hk, hb6⟩
    have hb36 := bl H5.out.1 hb6
    have hx6 := H3.out.2.2.2.below' hb36
    have hf6 := H5.out.2.below' hb6
    have H6 := Lib.hid (And.intro hb36 (And.intro hx6 hf6))
    have cx := hx6.cell_ 0 (.slice A n c) rfl
    have y0 := fun m => (hf6.drewN m).cell_ 0 (.string fx.p) rfl
    have y1 := fun m => (hf6.drewN m).cell_ 1 (.int .i64 fx.id) rfl
    have y2 := fun m => (hf6.drewN m).cell_ 2 (.int .i64 fx.sz) rfl
    have y3 := fun m => (hf6.drewN m).cell_ 3 (.string fx.sm) rfl
    have hcs := HF.out.2.2.1
    have HK := Lib.hid hk
    clear hb6 hb36 hx6 hf6 hk
    rcases hcs with ⟨i, x, hfb, hfx, hi, hkk⟩ | ⟨hfb, hfx, hkk⟩
    all_goals
      first
        | (have hin : i < n := by have := (List.getElem?_eq_some_iff.1 hi).1; rw [HA.out.1] at this; exact this
           subst x
           subst fb
           have hke := hkk k HK.out
           have hin1 : (i : Int) < (n : Int) := by omega
           obtain ⟨g, og, rfl, _, r0, r1, r2, r3⟩ := (H3.out.2.2.1.below H6.out.1).item hi
           have r0n : ∀ m, (w6.drewN m).cell? ⟨g, og + i * 4, none⟩ = some (.string fx.p) := fun _ => r0
           have r1n : ∀ m, (w6.drewN m).cell? ⟨g, og + i * 4 + 1, none⟩ = some (.int .i64 fx.id) := fun _ => r1
           have r2n : ∀ m, (w6.drewN m).cell? ⟨g, og + i * 4 + 2, none⟩ = some (.int .i64 fx.sz) := fun _ => r2
           have r3n : ∀ m, (w6.drewN m).cell? ⟨g, og + i * 4 + 3, none⟩ = some (.string fx.sm) := fun _ => r3
           subst hke
           clear hkk hi r0 r1 r2 r3 HK
           go_wp2_with fail
           go_quiet (fail)
           clear r0n r1n r2n r3n y0 y1 y2 y3)
        | (have hke := hkk k HK.out
           subst hke
           subst fb
           subst fx
           have z0 : ∀ m, (w6.drewN m).cell? ⟨w4.heap.size, 0, none⟩ = some (.string ⟨#[]⟩) := y0
           have z1 : ∀ m, (w6.drewN m).cell? ⟨w4.heap.size, 1, none⟩ = some (.int .i64 0) := y1
           have z2 : ∀ m, (w6.drewN m).cell? ⟨w4.heap.size, 2, none⟩ = some (.int .i64 0) := y2
           have z3 : ∀ m, (w6.drewN m).cell? ⟨w4.heap.size, 3, none⟩ = some (.string ⟨#[]⟩) := y3
           clear hkk HK y0 y1 y2 y3
           go_wp2_with fail
           go_quiet (fail)
           clear z0 z1 z2 z3)
    all_goals
      have hbq : Below w6.heap.size w6 (w6.drewN nq) := below_dnS (Below.refl _ _) nq
      have hxq := H6.out.2.1.below' hbq
      have H7 := Lib.hid (bl H6.out.1 hbq)
      have cx7 := hxq.cell_ 0 (.slice A n c) rfl
      clear cx hbq hxq
      generalize w6.drewN nq = w7 at *
      go_wp2_with fail
      refine (xunder_both L A n c HA.out.1 (by omega) HA.out.2.1 HA.out.2.2.1 p1 (by omega) L3 HF.out.2.2.2.1 w7 (H3.out.2.1.below H7.out)).mono ?_
      rintro e w8 ⟨B8, d8, rfl, h81, h82, hr8, hb8⟩
      have H8 := Lib.hid (And.intro (bl H7.out hb8) hr8)
      clear hr8 hb8 cx7
      go_wp2_with fail
      refine (runder_is L _ n d HA.out.1 (by omega) HA.out.2.2.1 p1 (by omega) L3 HF.out.2.2.2.1 w8 (H3.out.2.2.1.below H8.out.1)).mono ?_
      rintro e w9 ⟨B9, d9, rfl, h91, h92, hr9, hb9⟩
      have H9 := Lib.hid (And.intro (bl H8.out.1 hb9) (And.intro (H8.out.2.below hb9) hr9))
      clear hr9 hb9
      go_wp2_with fail
      refine (sameI_true L3 B8 B9 _ d8 d9 w9 rfl (by have := HF.out.2.2.2.2.2.2.1; omega) H9.out.2.1 H9.out.2.2).mono ?_
      rintro e w10 ⟨rfl, hb10⟩
      have H10 := Lib.hid (bl H9.out.1 hb10)
      have cx10 := (H3.out.2.2.2.below' H10.out).cell_ 0 (.slice A n c) rfl
      clear hb10
      go_wp2_with fail
      refine (xunder_both L A n c HA.out.1 (by omega) HA.out.2.1 HA.out.2.2.1 ⟨#[]⟩ (by decide) L HF.out.2.2.2.2.2.1 w10 (H3.out.2.1.below H10.out)).mono ?_
      rintro e w11 ⟨B11, d11, rfl, h111, h112, hr11, hb11⟩
      have H11 := Lib.hid (And.intro (bl H10.out hb11) hr11)
      rw [HA.out.1] at h111 ⊢
      clear hr11 hb11 cx10
      go_wp2_with fail
      refine (sameI_true L B11 _ n d11 d w11 HA.out.1 (by omega) H11.out.2 (H3.out.2.2.1.below H11.out.1)).mono ?_
      rintro e w12 ⟨rfl, hb12⟩
      have H12 := Lib.hid (bl H11.out.1 hb12)
      have cx12 := (H3.out.2.2.2.below' H12.out).cell_ 0 (.slice A n c) rfl
      clear hb12
      go_wp2_with fail
      refine (xarc_is L A n c HA.out.1 (by omega) o HF.out.2.2.2.2.1 w12 (H3.out.2.1.below H12.out)).mono ?_
      rintro e w13 ⟨B13, d13, rfl, h131, h132, hr13, hb13⟩
      have H13 := Lib.hid (And.intro (bl H12.out hb13) hr13)
      clear hr13 hb13 cx12
      go_wp2_with fail
      refine (rarc_is L _ n d HA.out.1 (by omega) HA.out.2.2.2 o HF.out.2.2.2.2.1 w13 (H3.out.2.2.1.below H13.out.1)).mono ?_
      rintro e w14 ⟨B14, d14, rfl, h141, h142, hr14, hb14⟩
      have H14 := Lib.hid (And.intro (bl H13.out.1 hb14) (And.intro (H13.out.2.below hb14) hr14))
      clear hr14 hb14
      go_wp2_with fail
      refine (same_eqX B13 B14 _ d13 d14 o w14 rfl H14.out.2.1 H14.out.2.2 (by have := HF.out.2.2.2.2.2.2.2; omega)).mono ?_
      rintro e w15 ⟨rfl, hb15⟩
      have H15 := Lib.hid (bl H14.out.1 hb15)
      clear hb15
      go_wp2_with fail
      refine (awakeI_any w15).mono ?_
      rintro e w16 ⟨rfl, hb16⟩
      have H16 := Lib.hid (bl H3.out.1 (bl H15.out hb16))
      clear hb16
      go_wp2_with fail
      go_ret
      exact ⟨rfl, H16.out⟩
end Go.Proofs.Ytnhbkfefpkocaaa
