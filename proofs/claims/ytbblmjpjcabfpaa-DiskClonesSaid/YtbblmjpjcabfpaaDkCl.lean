/-
  The walk of DiskClones.
-/
import Derived.Test.YtbblmjpjcabfpaaDkPl
namespace Go.Proofs.Ytbblmjpjcabfpaa
open Go.RowKit Go.Maps

set_option maxRecDepth 100000 in
set_option maxHeartbeats 8000000 in
theorem diskClones_walk (A0 : Option Addr) (n0 c0 : Nat) (l0 : List Dd) (B0 : Option Addr) (m0 d0 : Nat) (k0 : List Dd) (w : World) (hl : l0.length = n0) (hn : n0 ≤ c0) (hc : c0 ≤ 9223372036854775807) (hr : Rd w A0 (dl l0)) (hok : ∀ y ∈ l0, y.ok)
    (hl' : k0.length = m0) (hn' : m0 ≤ d0) (hc' : d0 ≤ 9223372036854775807) (hr' : Rd w B0 (dl k0)) (hok' : ∀ y ∈ k0, y.ok) :
    Calls Try.prog 6 #[.slice A0 n0 c0, .slice B0 m0 d0] w (Yes w) := by
  unfold Yes
  obtain ⟨l, hl2⟩ : ∃ l, fewD l0 = l := ⟨_, rfl⟩
  obtain ⟨L, hL⟩ : ∃ L, l.length = L := ⟨_, rfl⟩
  have HSM : Hid (∀ w1, Below w.heap.size w w1 → Calls Try.prog 9 #[.slice A0 n0 c0] w1 (RetS w1 L (dl l))) := Lib.hid fun w1 hb => by
    have := some_any l0 A0 n0 c0 hl hok w1 (hr.below hb) (by omega)
    rw [hl2, hL] at this
    exact this
  have HOK : Hid (∀ y ∈ l, y.ok ∧ y.s.size ≤ 300) := Lib.hid (by rw [← hl2]; exact fewD_ok hok)
  have hL60 : L ≤ 60 := by rw [← hL, ← hl2]; exact fewD_len l0
  have HL := Lib.hid hL
  obtain ⟨k, hk2⟩ : ∃ l, fewD k0 = l := ⟨_, rfl⟩
  obtain ⟨M, hM0⟩ : ∃ L, k.length = L := ⟨_, rfl⟩
  have HSM' : Hid (∀ w1, Below w.heap.size w w1 → Calls Try.prog 9 #[.slice B0 m0 d0] w1 (RetS w1 M (dl k))) := Lib.hid fun w1 hb => by
    have := some_any k0 B0 m0 d0 hl' hok' w1 (hr'.below hb) (by omega)
    rw [hk2, hM0] at this
    exact this
  have HOK' : Hid (∀ y ∈ k, y.ok ∧ y.s.size ≤ 300) := Lib.hid (by rw [← hk2]; exact fewD_ok hok')
  have hM60 : M ≤ 60 := by rw [← hM0, ← hk2]; exact fewD_len k0
  have HM := Lib.hid hM0
  clear hl hn hc hr hok hl2 hL hl' hn' hc' hr' hok' hk2 hM0
  go_enter Try.func6, Try.ntmps6
  go_wp2_with fail
  (with_reducible refine (new_at w 4 4 rfl (by omega) (by omega)).mono ?_)
  rintro e w1 ⟨b, g, m, rfl, hD, hB, hG, hM, hb1⟩
  have H1 := Lib.hid hD
  have K1 := Lib.hid hb1
  have LB := Lib.hid (And.intro hB (And.intro hG hM))
  clear hD hB hG hM hb1
  go_wp2_with fail
  (with_reducible refine (rnew_ok w1 4 4 rfl (by omega) (by omega)).mono ?_)
  rintro e w2 ⟨rb, go, gl, gf, c1, c2, c3, rfl, hR, e1, e2, e3, e4, hb2⟩
  have HBO := Lib.hid (both_new H1.out hb2 hR e1 e2 e3 e4)
  have K2 := Lib.hid (K1.out.trans (hb2.mono K1.out.size))
  have LL : Hid (∀ k ∈ [b, g, m, rb, go, gl, gf], w.heap.size ≤ k) := Lib.hid fun k hk => by
    have := K1.out.size
    obtain ⟨l1, l2, l3⟩ := LB.out
    simp at hk
    omega
  clear hR hb2 e1 e2 e3 e4
  go_wp2_with fail
  (with_reducible refine (HSM.out w2 K2.out).mono ?_)
  rintro e w3 ⟨A, c, rfl, hc1, hc2, hrd, hfr, hb3⟩
  have HOFF : Hid (dl l ≠ [] → ∀ ad, A = some ad → ad.block ∉ [b, g, m, rb, go, gl, gf]) := Lib.hid fun _ ad hA hm => by
    have h1 := hfr ad hA
    have h2 := HBO.out.lt _ hm
    omega
  have HBO3 := Lib.hid (HBO.out.quiet hb3)
  have HRD3 := Lib.hid hrd
  have K3 := Lib.hid (K2.out.trans (hb3.mono K2.out.size))
  clear hc1 hc2 hrd hfr hb3
  go_wp2_with fail
  (with_reducible refine (HSM'.out w3 K3.out).mono ?_)
  rintro e w4 ⟨B, d, rfl, hc1, hc2, hrd, hfr, hb4⟩
  have HOFF' : Hid (dl k ≠ [] → ∀ ad, B = some ad → ad.block ∉ [b, g, m, rb, go, gl, gf]) := Lib.hid fun _ ad hA hm => by
    have h1 := hfr ad hA
    have h2 := HBO3.out.lt _ hm
    omega
  have HREL : Hid (PlRel w w4 b g m rb go gl gf c1 c2 c3 4 (St.new 4) A l ∧ Rd w4 B (dl k)) := Lib.hid ⟨⟨HBO3.out.quiet hb4, HRD3.out.below hb4, K3.out.trans (hb4.mono K3.out.size)⟩, hrd⟩
  clear hc1 hc2 hrd hfr hb4
  go_wp2_with fail
  go_loopw [9] (fun vi wr => ∃ (i : Nat) (S : St), vi = .int .i64 i ∧ i ≤ L ∧ Hid (PlRel w wr b g m rb go gl gf c1 c2 c3 4 S A l ∧ Rd wr B (dl k))) (fun vi _ => L - (intOf vi).toNat)
  case atStart => exact ⟨0, _, rfl, by omega, HREL⟩
  case round =>
    obtain ⟨i, S, rfl, hi, HR⟩ := hrel
    by_cases hlt : i < L
    · have hl1 : (i : Int) < (L : Int) := by omega
      obtain ⟨y, hy⟩ : ∃ y, l[i]? = some y := ⟨_, List.getElem?_eq_getElem (by rw [HL.out]; exact hlt)⟩
      obtain ⟨bb, o, rfl, q0, q1, q2⟩ := HR.out.1.rd.deed hy
      have HY := Lib.hid (HOK.out y (List.mem_of_getElem? hy)).1
      have HDO : Hid (∀ w', PlRel w w' b g m rb go gl gf c1 c2 c3 4 S (some ⟨bb, o, none⟩) l ∧ Rd w' B (dl k) → Calls Try.prog 19 #[.pointer (some ⟨b, 0, none⟩), .pointer (some ⟨rb, 0, none⟩), .agg #[.int .i64 y.k, .int .i64 y.i, .string y.s]] w' fun e w'' => e = .returned (.bool true) ∧ ∃ S', PlRel w w'' b g m rb go gl gf c1 c2 c3 4 S' (some ⟨bb, o, none⟩) l ∧ Rd w'' B (dl k)) :=
        Lib.hid fun w' h => (does_any w' b g m rb go gl gf c1 c2 c3 S 4 h.1.bo y HY.out).mono fun e w'' ⟨a, S', h2, h3⟩ => ⟨a, S', h.1.deed h3 h2 HOFF.out LL.out, h.2.keepL h3 HOFF'.out⟩
      obtain ⟨yk, yi, ys⟩ := y
      simp only at q0 q1 q2 HDO
      clear hy
      go_wp2_with fail
      (with_reducible refine (HDO.out wr HR.out).mono ?_)
      rintro e w5 ⟨rfl, S', hR5⟩
      have HR5 := Lib.hid hR5
      clear hR5 q0 q1 q2
      go_wp2_with fail
      go_roundw
      case rel => exact ⟨i + 1, S', congrArg _ (by omega), by omega, HR5⟩
      case measure => simp [intOf]; omega
    · have hl1 : ¬ (i : Int) < (L : Int) := by omega
      have HCL : Hid (∀ w', Both w' b g m rb go gl gf c1 c2 c3 S 4 → Calls Try.prog 21 #[.pointer (some ⟨b, 0, none⟩)] w' fun e w'' => ∃ b' g' m', e = .returned (.pointer (some ⟨b', 0, none⟩)) ∧ DiskAt w'' b' g' m' S 4 ∧ w'.heap.size ≤ b' ∧ w'.heap.size ≤ g' ∧ w'.heap.size ≤ m' ∧ Below w'.heap.size w' w'') := Lib.hid fun w' h => clone_any w' b g m S 4 h.dk
      have HRC : Hid (∀ w', Both w' b g m rb go gl gf c1 c2 c3 S 4 → Calls Try.prog 22 #[.pointer (some ⟨rb, 0, none⟩)] w' (RNew w' S 4 fun b => .pointer (some ⟨b, 0, none⟩))) := Lib.hid fun w' h => rclone_any w' rb go gl gf c1 c2 c3 S 4 h.rf
      generalize hwr : wr = w5 at *
      clear hwr
      go_wp2_with fail
      (with_reducible refine (HCL.out w5 HR.out.1.bo).mono ?_)
      rintro e w6 ⟨b', g', m', rfl, hD, hB, hG, hM, hb6⟩
      have HD6 := Lib.hid hD
      have LB6 := Lib.hid (And.intro hB (And.intro hG hM))
      have HR6 := Lib.hid (And.intro (HR.out.1.quiet hb6) (HR.out.2.below hb6))
      have HZ6 := Lib.hid hb6.size
      clear hD hB hG hM hb6
      go_wp2_with fail
      (with_reducible refine (HRC.out w6 HR6.out.1.bo).mono ?_)
      rintro e w7 ⟨rb', go', gl', gf', d1, d2, d3, rfl, hR, e1, e2, e3, e4, hb7⟩
      have HB7 := Lib.hid (both_new HD6.out hb7 hR e1 e2 e3 e4)
      have HR7 := Lib.hid (And.intro (HR6.out.1.quiet hb7) (HR6.out.2.below hb7))
      have HLF : Hid (∀ x ∈ [b', g', m', rb', go', gl', gf'], w5.heap.size ≤ x) := Lib.hid fun x hx => by
        have := HZ6.out
        obtain ⟨l1, l2, l3⟩ := LB6.out
        simp at hx
        omega
      have HNF : Hid (∀ x ∈ [b, g, m, rb, go, gl, gf], x ∉ [b', g', m', rb', go', gl', gf']) := Lib.hid fun x hx hm => by
        have h1 := HR.out.1.bo.lt x hx
        have h2 := HLF.out x hm
        omega
      have HOF : Hid (dl k ≠ [] → ∀ ad, B = some ad → ad.block ∉ [b', g', m', rb', go', gl', gf']) := Lib.hid fun hn ad hA hm => by
        have h2 := HLF.out _ hm
        obtain ⟨bb, o, e, hcc⟩ := HR.out.2 hn
        rw [hA] at e
        cases e
        obtain ⟨y, ys, hy⟩ := List.exists_cons_of_ne_nil hn
        have := World.block_lt_of_cell? w5 _ (hcc 0 y (by rw [hy]; rfl))
        simp at this h2
        omega
      have HLW : Hid (∀ x ∈ [b', g', m', rb', go', gl', gf'], w.heap.size ≤ x) := Lib.hid fun x hx => Nat.le_trans HR.out.1.bl.size (HLF.out x hx)
      clear hR hb7 e1 e2 e3 e4
      go_wp2_with fail
      go_loopw [12] (fun vi wr => ∃ (j : Nat) (S' : St), vi = .int .i64 j ∧ j ≤ M ∧ Hid (PlRel w wr b' g' m' rb' go' gl' gf' d1 d2 d3 4 S' B k ∧ Both wr b g m rb go gl gf c1 c2 c3 S 4)) (fun vi _ => M - (intOf vi).toNat)
      case atStart => exact ⟨0, _, rfl, by omega, Lib.hid ⟨⟨HB7.out, HR7.out.2, HR7.out.1.bl⟩, HR7.out.1.bo⟩⟩
      case round =>
        obtain ⟨j, S', rfl, hj, HS⟩ := hrel
        by_cases hltm : j < M
        · have hl2 : (j : Int) < (M : Int) := by omega
          obtain ⟨y, hy⟩ : ∃ y, k[j]? = some y := ⟨_, List.getElem?_eq_getElem (by rw [HM.out]; exact hltm)⟩
          obtain ⟨bb, o, rfl, q0, q1, q2⟩ := HS.out.1.rd.deed hy
          have HY := Lib.hid (HOK'.out y (List.mem_of_getElem? hy)).1
          have HDO : Hid (∀ w', PlRel w w' b' g' m' rb' go' gl' gf' d1 d2 d3 4 S' (some ⟨bb, o, none⟩) k ∧ Both w' b g m rb go gl gf c1 c2 c3 S 4 → Calls Try.prog 19 #[.pointer (some ⟨b', 0, none⟩), .pointer (some ⟨rb', 0, none⟩), .agg #[.int .i64 y.k, .int .i64 y.i, .string y.s]] w' fun e w'' => e = .returned (.bool true) ∧ ∃ S', PlRel w w'' b' g' m' rb' go' gl' gf' d1 d2 d3 4 S' (some ⟨bb, o, none⟩) k ∧ Both w'' b g m rb go gl gf c1 c2 c3 S 4) :=
            Lib.hid fun w' h => (does_any w' b' g' m' rb' go' gl' gf' d1 d2 d3 S' 4 h.1.bo y HY.out).mono fun e w'' ⟨a, S', h2, h3⟩ => ⟨a, S', h.1.deed h3 h2 HOF.out HLW.out, h.2.keepL h3 HNF.out⟩
          obtain ⟨yk, yi, ys⟩ := y
          simp only at q0 q1 q2 HDO
          clear hy
          go_wp2_with fail
          (with_reducible refine (HDO.out wr HS.out).mono ?_)
          rintro e w8 ⟨rfl, S'', hR8⟩
          have HR8 := Lib.hid hR8
          clear hR8 q0 q1 q2
          go_wp2_with fail
          go_roundw
          case rel => exact ⟨j + 1, S'', congrArg _ (by omega), by omega, HR8⟩
          case measure => simp [intOf]; omega
        · have hl2 : ¬ (j : Int) < (M : Int) := by omega
          go_wp2_with fail
          (with_reducible refine (lsame_any wr b g m rb go gl gf c1 c2 c3 S 4 HS.out.2).mono ?_)
          rintro e w9 ⟨rfl, hb9⟩
          have HR9 := Lib.hid (HS.out.1.quiet hb9)
          clear hb9
          go_wp2_with fail
          (with_reducible refine (lsame_any w9 b' g' m' rb' go' gl' gf' d1 d2 d3 S' 4 HR9.out.bo).mono ?_)
          rintro e w10 ⟨rfl, hb10⟩
          have HR10 := Lib.hid (HR9.out.quiet hb10)
          clear hb10
          go_wp2_with fail
          (with_reducible refine (awake_any w10).mono ?_)
          rintro e w11 ⟨rfl, b11⟩
          go_wp2_with fail
          go_ret
          exact ⟨rfl, HR10.out.bl.trans (b11.mono HR10.out.bl.size)⟩
end Go.Proofs.Ytbblmjpjcabfpaa
