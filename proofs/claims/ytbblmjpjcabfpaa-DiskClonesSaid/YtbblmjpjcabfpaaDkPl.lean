/-
  The walks of DiskPlays and DiskClones.
-/
import Derived.Test.YtbblmjpjcabfpaaDkZ
import Derived.Test.YtbblmjpjcabfpaaDkN
import Derived.Test.YtbblmjpjcabfpaaDdB
import Derived.Test.YtbblmjpjcabfpaaDkP
import Derived.Test.YtbblmjpjcabfpaaFrameK
namespace Go.Proofs.Ytbblmjpjcabfpaa
open Go.RowKit Go.Maps

theorem Rd.keepL {w w' : World} {A : Option Addr} {xs : List Value} {F : List Nat} (h : Rd w A xs) (hk : KeepL F w w') (ho : xs ≠ [] → ∀ ad, A = some ad → ad.block ∉ F) : Rd w' A xs := fun hn => by
  obtain ⟨b, o, e, hc⟩ := h hn
  have h9 := ho hn _ e
  exact ⟨b, o, e, fun j u hj => hk.cell (hc j u hj) h9⟩
/-- Two new disks, one behind the other. -/
theorem both_new {w1 w2 : World} {b g m rb go gl gf c1 c2 c3 n : Nat} {S : St} (hD : DiskAt w1 b g m S n) (hb : Below w1.heap.size w1 w2) (hR : RefAt w2 rb go gl gf c1 c2 c3 S n) (h1 : w1.heap.size ≤ rb) (h2 : w1.heap.size ≤ go) (h3 : w1.heap.size ≤ gl) (h4 : w1.heap.size ≤ gf) : Both w2 b g m rb go gl gf c1 c2 c3 S n := by
  obtain ⟨l1, l2, l3⟩ := hD.lts
  refine ⟨hD.below hb, hR, ⟨?_, ?_, ?_⟩⟩ <;> omega
structure PlRel (w wr : World) (b g m rb go gl gf c1 c2 c3 n : Nat) (S : St) (A : Option Addr) (l : List Dd) : Prop where
  bo : Both wr b g m rb go gl gf c1 c2 c3 S n
  rd : Rd wr A (dl l)
  bl : Below w.heap.size w wr
section
variable {w wr w' : World} {b g m rb go gl gf c1 c2 c3 n : Nat} {S S' : St} {A : Option Addr} {l : List Dd}
theorem PlRel.quiet (h : PlRel w wr b g m rb go gl gf c1 c2 c3 n S A l) (hb : Below wr.heap.size wr w') : PlRel w w' b g m rb go gl gf c1 c2 c3 n S A l :=
  ⟨h.bo.quiet hb, h.rd.below hb, h.bl.trans (hb.mono h.bl.size)⟩
theorem PlRel.deed (h : PlRel w wr b g m rb go gl gf c1 c2 c3 n S A l) (hk : KeepL [b, g, m, rb, go, gl, gf] wr w') (hB : Both w' b g m rb go gl gf c1 c2 c3 S' n) (ho : dl l ≠ [] → ∀ ad, A = some ad → ad.block ∉ [b, g, m, rb, go, gl, gf]) (hl : ∀ k ∈ [b, g, m, rb, go, gl, gf], w.heap.size ≤ k) : PlRel w w' b g m rb go gl gf c1 c2 c3 n S' A l :=
  ⟨hB, h.rd.keepL hk ho, h.bl.trans (hk.below h.bl.size hl)⟩
end

set_option maxRecDepth 100000 in
set_option maxHeartbeats 8000000 in
theorem diskPlays_walk (x : Int) (A0 : Option Addr) (n0 c0 : Nat) (l0 : List Dd) (w : World) (lo : -9223372036854775808 ≤ x) (hi : x ≤ 9223372036854775807) (hl : l0.length = n0) (hn : n0 ≤ c0) (hc : c0 ≤ 9223372036854775807) (hr : Rd w A0 (dl l0)) (hok : ∀ y ∈ l0, y.ok) :
    Calls Try.prog 5 #[.int .i64 x, .slice A0 n0 c0] w (Yes w) := by
  unfold Yes
  obtain ⟨l, hl2⟩ : ∃ l, fewD l0 = l := ⟨_, rfl⟩
  obtain ⟨L, hL⟩ : ∃ L, l.length = L := ⟨_, rfl⟩
  have HSM : Hid (∀ w1, Below w.heap.size w w1 → Calls Try.prog 9 #[.slice A0 n0 c0] w1 (RetS w1 L (dl l))) := Lib.hid fun w1 hb => by
    have := some_any l0 A0 n0 c0 hl hok w1 (hr.below hb) (by omega)
    rw [hl2, hL] at this
    exact this
  have HOK : Hid (∀ y ∈ l, y.ok ∧ y.s.size ≤ 300) := Lib.hid (by rw [← hl2]; exact fewD_ok hok)
  have hL60 : L ≤ 60 := by rw [← hL, ← hl2]; exact fewD_len l0
  have HL := Lib.hid hL
  clear hl hn hc hr hok hl2 hL lo
  by_cases hbig : 1 < x ∧ x ≤ 1024
  · have hb1 : (1 : Int) < x := hbig.1
    have hb2 : x ≤ 1024 := hbig.2
    obtain ⟨N, hN⟩ : ∃ N : Nat, 1 + bits .and .i64 x 15 = (N : Int) := ⟨(1 + x % 16).toNat, by rw [bitsand_mask x 4 (by omega) 15 rfl]; simp only [Nat.reducePow]; omega⟩
    have h1 : 1 ≤ N ∧ N ≤ 16 := by rw [bitsand_mask x 4 (by omega) 15 rfl] at hN; simp only [Nat.reducePow] at hN; omega
    have hw16 : IntKind.i64.wrap (1 + bits .and .i64 x 15) = (N : Int) := by rw [hN, IntKind.wrap_i64]; omega
    obtain ⟨h1, h16⟩ := h1
    have HNX : Hid ((N : Int) = (N : Int) ∧ True) := Lib.hid ⟨rfl, trivial⟩
    clear hbig hN
    go_enter Try.func5, Try.ntmps5
    go_wp2_with fail
    (with_reducible refine (new_at w _ N rfl h1 (by omega)).mono ?_)
    rintro e w1 ⟨b, g, m, rfl, hD, hB, hG, hM, hb1⟩
    have H1 := Lib.hid hD
    have K1 := Lib.hid hb1
    have LB := Lib.hid (And.intro hB (And.intro hG hM))
    clear hD hB hG hM hb1
    go_wp2_with fail
    (with_reducible refine (rnew_ok w1 _ N rfl h1 (by omega)).mono ?_)
    rintro e w2 ⟨rb, go, gl, gf, c1, c2, c3, rfl, hR, e1, e2, e3, e4, hb2⟩
    have HBO := Lib.hid (both_new H1.out hb2 hR e1 e2 e3 e4)
    have K2 := Lib.hid (K1.out.trans (hb2.mono K1.out.size))
    have LL : Hid (∀ k ∈ [b, g, m, rb, go, gl, gf], w.heap.size ≤ k) := Lib.hid fun k hk => by
      have := K1.out.size
      obtain ⟨l1, l2, l3⟩ := LB.out
      simp at hk
      omega
    clear hR hb2 e1 e2 e3 e4
    go_wp2_with fail
    (with_reducible refine (HSM.out w2 K2.out).mono ?_)
    rintro e w3 ⟨A, c, rfl, hc1, hc2, hrd, hfr, hb3⟩
    have HOFF : Hid (dl l ≠ [] → ∀ ad, A = some ad → ad.block ∉ [b, g, m, rb, go, gl, gf]) := Lib.hid fun _ ad hA hm => by
      have h1 := hfr ad hA
      have h2 := HBO.out.lt _ hm
      omega
    have HREL : Hid (PlRel w w3 b g m rb go gl gf c1 c2 c3 N (St.new N) A l) := Lib.hid ⟨HBO.out.quiet hb3, hrd, K2.out.trans (hb3.mono K2.out.size)⟩
    clear hc1 hc2 hrd hfr hb3
    go_wp2_with fail
    go_loopw [9] (fun vi wr => ∃ (i : Nat) (S : St), vi = .int .i64 i ∧ i ≤ L ∧ Hid (PlRel w wr b g m rb go gl gf c1 c2 c3 N S A l)) (fun vi _ => L - (intOf vi).toNat)
    case atStart => exact ⟨0, _, rfl, by omega, HREL⟩
    case round =>
      obtain ⟨i, S, rfl, hi, HR⟩ := hrel
      by_cases hlt : i < L
      · have hl1 : (i : Int) < (L : Int) := by omega
        obtain ⟨y, hy⟩ : ∃ y, l[i]? = some y := ⟨_, List.getElem?_eq_getElem (by rw [HL.out]; exact hlt)⟩
        obtain ⟨bb, o, rfl, q0, q1, q2⟩ := HR.out.rd.deed hy
        have HY := Lib.hid (HOK.out y (List.mem_of_getElem? hy)).1
        have HDO : Hid (∀ w', PlRel w w' b g m rb go gl gf c1 c2 c3 N S (some ⟨bb, o, none⟩) l → Calls Try.prog 19 #[.pointer (some ⟨b, 0, none⟩), .pointer (some ⟨rb, 0, none⟩), .agg #[.int .i64 y.k, .int .i64 y.i, .string y.s]] w' fun e w'' => e = .returned (.bool true) ∧ ∃ S', PlRel w w'' b g m rb go gl gf c1 c2 c3 N S' (some ⟨bb, o, none⟩) l) :=
          Lib.hid fun w' h => (does_any w' b g m rb go gl gf c1 c2 c3 S N h.bo y HY.out).mono fun e w'' ⟨a, S', h2, h3⟩ => ⟨a, S', h.deed h3 h2 HOFF.out LL.out⟩
        obtain ⟨yk, yi, ys⟩ := y
        simp only at q0 q1 q2 HDO
        clear hy
        go_wp2_with fail
        (with_reducible refine (HDO.out wr HR.out).mono ?_)
        rintro e w5 ⟨rfl, S', hR5⟩
        have HR5 := Lib.hid hR5
        clear hR5 q0 q1 q2
        go_wp2_with fail
        (with_reducible refine (lsame_any w5 b g m rb go gl gf c1 c2 c3 S' N HR5.out.bo).mono ?_)
        rintro e w6 ⟨rfl, hb6⟩
        have HR6 := Lib.hid (HR5.out.quiet hb6)
        clear hb6
        go_wp2_with fail
        go_roundw
        case rel => exact ⟨i + 1, S', congrArg _ (by omega), by omega, HR6⟩
        case measure => simp [intOf]; omega
      · have hl1 : ¬ (i : Int) < (L : Int) := by omega
        go_wp2_with fail
        (with_reducible refine (awake_any wr).mono ?_)
        rintro e w9 ⟨rfl, b9⟩
        go_wp2_with fail
        go_ret
        exact ⟨rfl, HR.out.bl.trans (b9.mono HR.out.bl.size)⟩
  · by_cases hx1 : x = 1
    · subst hx1
      have h1 : 1 ≤ 1 := Nat.le_refl 1
      obtain ⟨N, hN⟩ : ∃ N : Nat, N = 1 := ⟨1, rfl⟩
      rw [← hN] at h1
      have HNX : Hid ((1 : Int) = (N : Int) ∧ True) := Lib.hid ⟨by omega, trivial⟩
      have h16 : N ≤ 16 := by omega
      have hlt1 : ¬ (1 : Int) < 1 := by omega
      have HN := Lib.hid hN
      have h1 : 1 ≤ N := by omega
      clear hbig hN
      go_enter Try.func5, Try.ntmps5
      go_wp2_with fail
      (with_reducible refine (new_at w _ N HNX.out.1 h1 (by omega)).mono ?_)
      rintro e w1 ⟨b, g, m, rfl, hD, hB, hG, hM, hb1⟩
      have H1 := Lib.hid hD
      have K1 := Lib.hid hb1
      have LB := Lib.hid (And.intro hB (And.intro hG hM))
      clear hD hB hG hM hb1
      go_wp2_with fail
      (with_reducible refine (rnew_ok w1 _ N HNX.out.1 h1 (by omega)).mono ?_)
      rintro e w2 ⟨rb, go, gl, gf, c1, c2, c3, rfl, hR, e1, e2, e3, e4, hb2⟩
      have HBO := Lib.hid (both_new H1.out hb2 hR e1 e2 e3 e4)
      have K2 := Lib.hid (K1.out.trans (hb2.mono K1.out.size))
      have LL : Hid (∀ k ∈ [b, g, m, rb, go, gl, gf], w.heap.size ≤ k) := Lib.hid fun k hk => by
        have := K1.out.size
        obtain ⟨l1, l2, l3⟩ := LB.out
        simp at hk
        omega
      clear hR hb2 e1 e2 e3 e4
      go_wp2_with fail
      (with_reducible refine (HSM.out w2 K2.out).mono ?_)
      rintro e w3 ⟨A, c, rfl, hc1, hc2, hrd, hfr, hb3⟩
      have HOFF : Hid (dl l ≠ [] → ∀ ad, A = some ad → ad.block ∉ [b, g, m, rb, go, gl, gf]) := Lib.hid fun _ ad hA hm => by
        have h1 := hfr ad hA
        have h2 := HBO.out.lt _ hm
        omega
      have HREL : Hid (PlRel w w3 b g m rb go gl gf c1 c2 c3 N (St.new N) A l) := Lib.hid ⟨HBO.out.quiet hb3, hrd, K2.out.trans (hb3.mono K2.out.size)⟩
      clear hc1 hc2 hrd hfr hb3
      go_wp2_with fail
      go_loopw [9] (fun vi wr => ∃ (i : Nat) (S : St), vi = .int .i64 i ∧ i ≤ L ∧ Hid (PlRel w wr b g m rb go gl gf c1 c2 c3 N S A l)) (fun vi _ => L - (intOf vi).toNat)
      case atStart => exact ⟨0, _, rfl, by omega, HREL⟩
      case round =>
        obtain ⟨i, S, rfl, hi, HR⟩ := hrel
        by_cases hlt : i < L
        · have hl1 : (i : Int) < (L : Int) := by omega
          obtain ⟨y, hy⟩ : ∃ y, l[i]? = some y := ⟨_, List.getElem?_eq_getElem (by rw [HL.out]; exact hlt)⟩
          obtain ⟨bb, o, rfl, q0, q1, q2⟩ := HR.out.rd.deed hy
          have HY := Lib.hid (HOK.out y (List.mem_of_getElem? hy)).1
          have HDO : Hid (∀ w', PlRel w w' b g m rb go gl gf c1 c2 c3 N S (some ⟨bb, o, none⟩) l → Calls Try.prog 19 #[.pointer (some ⟨b, 0, none⟩), .pointer (some ⟨rb, 0, none⟩), .agg #[.int .i64 y.k, .int .i64 y.i, .string y.s]] w' fun e w'' => e = .returned (.bool true) ∧ ∃ S', PlRel w w'' b g m rb go gl gf c1 c2 c3 N S' (some ⟨bb, o, none⟩) l) :=
            Lib.hid fun w' h => (does_any w' b g m rb go gl gf c1 c2 c3 S N h.bo y HY.out).mono fun e w'' ⟨a, S', h2, h3⟩ => ⟨a, S', h.deed h3 h2 HOFF.out LL.out⟩
          obtain ⟨yk, yi, ys⟩ := y
          simp only at q0 q1 q2 HDO
          clear hy
          go_wp2_with fail
          (with_reducible refine (HDO.out wr HR.out).mono ?_)
          rintro e w5 ⟨rfl, S', hR5⟩
          have HR5 := Lib.hid hR5
          clear hR5 q0 q1 q2
          go_wp2_with fail
          (with_reducible refine (lsame_any w5 b g m rb go gl gf c1 c2 c3 S' N HR5.out.bo).mono ?_)
          rintro e w6 ⟨rfl, hb6⟩
          have HR6 := Lib.hid (HR5.out.quiet hb6)
          clear hb6
          go_wp2_with fail
          go_roundw
          case rel => exact ⟨i + 1, S', congrArg _ (by omega), by omega, HR6⟩
          case measure => simp [intOf]; omega
        · have hl1 : ¬ (i : Int) < (L : Int) := by omega
          go_wp2_with fail
          (with_reducible refine (awake_any wr).mono ?_)
          rintro e w9 ⟨rfl, b9⟩
          go_wp2_with fail
          go_ret
          exact ⟨rfl, HR.out.bl.trans (b9.mono HR.out.bl.size)⟩
    · have hbad : x < 1 ∨ 1024 < x := by omega
      have HNW := Lib.hid (new_bad w x hbad)
      have HRW : Hid (∀ w', Calls Try.prog 18 #[.int .i64 x] w' fun e w'' => e = .returned (.tuple #[.pointer none, .int .i64 1]) ∧ Below w'.heap.size w' w'') := Lib.hid fun w' => rnew_bad w' x hbad
      clear hx1 hbig
      rcases hbad with hbad | hbad
      · have hb1 : ¬ (1 : Int) < x := by omega
        go_enter Try.func5, Try.ntmps5
        go_wp2_with fail
        (with_reducible refine HNW.out.mono ?_)
        rintro e w1 ⟨rfl, b1⟩
        go_wp2_with fail
        (with_reducible refine (HRW.out w1).mono ?_)
        rintro e w2 ⟨rfl, b2⟩
        go_wp2_with fail
        (with_reducible refine (awake_any w2).mono ?_)
        rintro e w9 ⟨rfl, b9⟩
        go_wp2_with fail
        go_ret
        exact ⟨rfl, bl (bl b1 b2) b9⟩
      · have hb1 : (1 : Int) < x := by omega
        have hb2 : ¬ x ≤ 1024 := by omega
        go_enter Try.func5, Try.ntmps5
        go_wp2_with fail
        (with_reducible refine HNW.out.mono ?_)
        rintro e w1 ⟨rfl, b1⟩
        go_wp2_with fail
        (with_reducible refine (HRW.out w1).mono ?_)
        rintro e w2 ⟨rfl, b2⟩
        go_wp2_with fail
        (with_reducible refine (awake_any w2).mono ?_)
        rintro e w9 ⟨rfl, b9⟩
        go_wp2_with fail
        go_ret
        exact ⟨rfl, bl (bl b1 b2) b9⟩
end Go.Proofs.Ytbblmjpjcabfpaa
