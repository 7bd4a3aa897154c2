/-
  The walk of EpochPlays (printed by genEpG.py).
-/
import Derived.Test.YthjjdjhmaffoeaaGreatDoorEpF
import Derived.Test.YthjjdjhmaffoeaaGreatDoorDkZ
import Derived.Test.YthjjdjhmaffoeaaGreatDoorDdA
import Derived.Test.YthjjdjhmaffoeaaGreatDoorFrameL
namespace Go.Proofs.YthjjdjhmaffoeaaGreatDoor
open Go.RowKit Go.Maps

theorem Rd.keepL {w w' : World} {A : Option Addr} {xs : List Value} {F : List Nat} (h : Rd w A xs) (hk : KeepL F w w') (ho : xs ≠ [] → ∀ ad, A = some ad → ad.block ∉ F) : Rd w' A xs := fun hn => by
  obtain ⟨b, o, e, hc⟩ := h hn
  have h9 := ho hn _ e
  exact ⟨b, o, e, fun j u hj => hk.cell (hc j u hj) h9⟩
/-- Two new disks, one behind the other. -/
theorem both_new {w1 w2 : World} {b g m rb go gl gf c1 c2 c3 n : Nat} {S : St} (hD : DiskAt w1 b g m S n) (hb : Below w1.heap.size w1 w2) (hR : RefAt w2 rb go gl gf c1 c2 c3 S n) (h1 : w1.heap.size ≤ rb) (h2 : w1.heap.size ≤ go) (h3 : w1.heap.size ≤ gl) (h4 : w1.heap.size ≤ gf) : Both w2 b g m rb go gl gf c1 c2 c3 S n := by
  obtain ⟨l1, l2, l3⟩ := hD.lts
  refine ⟨hD.below hb, hR, ⟨?_, ?_, ?_⟩⟩ <;> omega
/-- Both disks, the code's at S', the reference's at S; the deeds. -/
structure PrE (w wr : World) (b g m rb go gl gf c1 c2 c3 n : Nat) (S' S : St) (A : Option Addr) (l : List Dd) : Prop where
  dk : DiskAt wr b g m S' n
  rf : RefAt wr rb go gl gf c1 c2 c3 S n
  sp : Sep b g m rb go gl gf
  rd : Rd wr A (dl l)
  bl : Below w.heap.size w wr
  off : dl l ≠ [] → ∀ ad, A = some ad → ad.block ∉ [b, g, m, rb, go, gl, gf]
  ll : ∀ k ∈ [b, g, m, rb, go, gl, gf], w.heap.size ≤ k
/-- .. and the deed's copy. -/
structure MidE (w wr : World) (b g m rb go gl gf c1 c2 c3 n : Nat) (S' S : St) (A : Option Addr) (l : List Dd) (xb : Nat) (i : Int) (s : ByteArray) : Prop where
  pr : PrE w wr b g m rb go gl gf c1 c2 c3 n S' S A l
  x1 : wr.cell? ⟨xb, 1, none⟩ = some (.int .i64 i)
  x2 : wr.cell? ⟨xb, 2, none⟩ = some (.string s)
  xn : xb ∉ [b, g, m, rb, go, gl, gf]
section
variable {w wr w' : World} {b g m rb go gl gf c1 c2 c3 n : Nat} {S S' S2 : St} {A : Option Addr} {l : List Dd} {xb : Nat} {i : Int} {s : ByteArray}
theorem PrE.quiet (h : PrE w wr b g m rb go gl gf c1 c2 c3 n S' S A l) (hb : Below wr.heap.size wr w') : PrE w w' b g m rb go gl gf c1 c2 c3 n S' S A l :=
  ⟨h.dk.below hb, h.rf.below hb, h.sp, h.rd.below hb, h.bl.trans (hb.mono h.bl.size), h.off, h.ll⟩
theorem PrE.both (h : PrE w wr b g m rb go gl gf c1 c2 c3 n S S A l) : Both wr b g m rb go gl gf c1 c2 c3 S n := ⟨h.dk, h.rf, h.sp⟩
theorem MidE.quiet (h : MidE w wr b g m rb go gl gf c1 c2 c3 n S' S A l xb i s) (hb : Below wr.heap.size wr w') : MidE w w' b g m rb go gl gf c1 c2 c3 n S' S A l xb i s :=
  ⟨h.pr.quiet hb, (hb.cell (World.block_lt_of_cell? wr _ h.x1)).trans h.x1, (hb.cell (World.block_lt_of_cell? wr _ h.x2)).trans h.x2, h.xn⟩
theorem MidE.code (h : MidE w wr b g m rb go gl gf c1 c2 c3 n S' S A l xb i s) (hk : Keep3 b g m wr w') (hD : DiskAt w' b g m S2 n) : MidE w w' b g m rb go gl gf c1 c2 c3 n S2 S A l xb i s := by
  have hL : KeepL [b, g, m, rb, go, gl, gf] wr w' := KeepL.of3 hk (by simp)
  exact ⟨⟨hD, h.pr.rf.keep3 h.pr.sp hk, h.pr.sp, h.pr.rd.keepL hL h.pr.off, h.pr.bl.trans (hL.below h.pr.bl.size h.pr.ll), h.pr.off, h.pr.ll⟩, hL.cell h.x1 h.xn, hL.cell h.x2 h.xn, h.xn⟩
theorem MidE.ref (h : MidE w wr b g m rb go gl gf c1 c2 c3 n S' S A l xb i s) (hk : Keep4 rb go gl gf wr w') (hR : RefAt w' rb go gl gf c1 c2 c3 S2 n) : MidE w w' b g m rb go gl gf c1 c2 c3 n S' S2 A l xb i s := by
  have hL : KeepL [b, g, m, rb, go, gl, gf] wr w' := KeepL.of4 hk (by simp)
  exact ⟨⟨h.pr.dk.keep4 h.pr.sp hk, hR, h.pr.sp, h.pr.rd.keepL hL h.pr.off, h.pr.bl.trans (hL.below h.pr.bl.size h.pr.ll), h.pr.off, h.pr.ll⟩, hL.cell h.x1 h.xn, hL.cell h.x2 h.xn, h.xn⟩
theorem PrE.start (h : PrE w wr b g m rb go gl gf c1 c2 c3 n S S A l) (k i : Int) (s : ByteArray) (t : TypeId) : MidE w (wr.alloc (.cells #[.int .i64 k, .int .i64 i, .string s] t)) b g m rb go gl gf c1 c2 c3 n S S A l wr.heap.size i s :=
  ⟨h.quiet ((Below.refl _ wr).alloc (Nat.le_refl _) _), by rw [World.cell?_alloc_mark]; rfl, by rw [World.cell?_alloc_mark]; rfl, fun hm => by have := h.both.lt _ hm; omega⟩
end

set_option maxRecDepth 100000 in
set_option maxHeartbeats 16000000 in
theorem epochPlays_walk (A0 : Option Addr) (n0 c0 : Nat) (l : List Dd) (w : World) (hl : l.length = n0) (hn : n0 ≤ c0) (hc : c0 ≤ 9223372036854775807) (hr : Rd w A0 (dl l)) (hok : ∀ y ∈ l, y.ok) :
    Calls Tryz.prog 3 #[.slice A0 n0 c0] w (Yes w) := by
  unfold Yes
  have HL := Lib.hid hl
  have HRD := Lib.hid hr
  have HOK := Lib.hid hok
  clear hl hn hc hr hok
  go_enter Tryz.func3, Tryz.ntmps3
  go_wp2_with fail
  (with_reducible refine (new_at w 3 3 rfl (by omega) (by omega)).mono ?_)
  rintro e w1 ⟨b, g, m, rfl, hD, hB, hG, hM, hb1⟩
  have H1 := Lib.hid hD
  have K1 := Lib.hid hb1
  have LB := Lib.hid (And.intro hB (And.intro hG hM))
  clear hD hB hG hM hb1
  go_wp2_with fail
  (with_reducible refine (rnew_ok w1 3 3 rfl (by omega) (by omega)).mono ?_)
  rintro e w2 ⟨rb, go, gl, gf, c1, c2, c3, rfl, hR, e1, e2, e3, e4, hb2⟩
  have HBO := Lib.hid (both_new H1.out hb2 hR e1 e2 e3 e4)
  have K2 := Lib.hid (K1.out.trans (hb2.mono K1.out.size))
  have LL : Hid (∀ k ∈ [b, g, m, rb, go, gl, gf], w.heap.size ≤ k) := Lib.hid fun k hk => by
    have := K1.out.size
    obtain ⟨l1, l2, l3⟩ := LB.out
    simp at hk
    omega
  have HOFF : Hid (dl l ≠ [] → ∀ ad, A0 = some ad → ad.block ∉ [b, g, m, rb, go, gl, gf]) := Lib.hid fun hne ad hA hm => by
    obtain ⟨b1, o1, e1, hc1⟩ := HRD.out hne
    subst hA
    obtain rfl := Option.some.inj e1
    obtain ⟨u, hu⟩ : ∃ u, (dl l)[0]? = some u := by
      cases hd : dl l with
      | nil => exact absurd hd hne
      | cons u r => exact ⟨u, rfl⟩
    have h1 := World.block_lt_of_cell? w _ (hc1 0 u hu)
    have h2 := LL.out _ hm
    simp only at h1 h2
    omega
  have HREL : Hid (PrE w w2 b g m rb go gl gf c1 c2 c3 3 (St.new 3) (St.new 3) A0 l) := Lib.hid ⟨HBO.out.dk, HBO.out.rf, HBO.out.sp, HRD.out.below K2.out, K2.out, HOFF.out, LL.out⟩
  clear hR hb2 e1 e2 e3 e4 HBO K2 LL HOFF H1 K1 LB HRD
  go_wp2_with fail
  go_loopw [7] (fun vi wr => ∃ (i : Nat) (S : St), vi = .int .i64 i ∧ i ≤ n0 ∧ i ≤ 40 ∧ Hid (PrE w wr b g m rb go gl gf c1 c2 c3 3 S S A0 l)) (fun vi _ => n0 - (intOf vi).toNat)
  case atStart => exact ⟨0, _, rfl, by omega, by omega, HREL⟩
  case round =>
    clear HREL
    obtain ⟨i, S, rfl, hi, hi4, HR⟩ := hrel
    have HAW : Hid (Calls Tryz.prog 19 #[] wr fun e w'' => e = .returned (.bool true) ∧ Below w.heap.size w w'') :=
      Lib.hid ((eawake_any wr).mono fun e w'' ⟨he, hb2⟩ => ⟨he, HR.out.bl.trans (hb2.mono HR.out.bl.size)⟩)
    by_cases hlt : i < n0
    · by_cases h40 : i < 40
      · have hl1 : (i : Int) < (n0 : Int) := by omega
        have hl2 : (i : Int) < 40 := by omega
        obtain ⟨y, hy⟩ : ∃ y, l[i]? = some y := ⟨_, List.getElem?_eq_getElem (by rw [HL.out]; exact hlt)⟩
        obtain ⟨bb, o, rfl, q0, q1, q2⟩ := HR.out.rd.deed hy
        have HY := Lib.hid (HOK.out y (List.mem_of_getElem? hy))
        obtain ⟨xk, xi, xs⟩ := y
        simp only at q0 q1 q2
        clear hy HAW
        by_cases hbig : 300 < xs.size
        · have hb1 : (300 : Int) < (xs.size : Int) := by omega
          have hx3 : (xs.extract 0 300).size ≤ 300 := by rw [ByteArray.size_extract]; omega
          obtain ⟨s, hs⟩ : ∃ s, xs.extract 0 300 = s := ⟨_, rfl⟩
          rw [hs] at hx3
          by_cases k0 : xk = 0
          · subst k0
            obtain ⟨a1, ha1⟩ : ∃ a, (S.next xi).2.1 = a := ⟨_, rfl⟩
            obtain ⟨a2, ha2⟩ : ∃ a, (S.next xi).2.2 = a := ⟨_, rfl⟩
            obtain ⟨S2, hS2⟩ : ∃ S2, (S.next xi).1 = S2 := ⟨_, rfl⟩
            have HC1 : Hid (∀ w', MidE w w' b g m rb go gl gf c1 c2 c3 3 S S (some ⟨bb, o, none⟩) l wr.heap.size xi s → Calls Tryz.prog 6 #[.pointer (some ⟨b, 0, none⟩), .int .i64 xi] w' fun e w'' => e = .returned (.tuple #[.int .i64 a1, .int .i64 a2]) ∧ MidE w w'' b g m rb go gl gf c1 c2 c3 3 S2 S (some ⟨bb, o, none⟩) l wr.heap.size xi s) :=
              Lib.hid fun w' h => (next_any w' b g m S 3 xi h.pr.dk).mono fun e w'' ⟨a, c, d⟩ => ⟨by rw [a, ha1, ha2], by rw [hS2] at c; exact h.code d c⟩
            have HC2 : Hid (∀ w', MidE w w' b g m rb go gl gf c1 c2 c3 3 S2 S (some ⟨bb, o, none⟩) l wr.heap.size xi s → Calls Tryz.prog 7 #[.pointer (some ⟨rb, 0, none⟩), .int .i64 xi] w' fun e w'' => e = .returned (.tuple #[.int .i64 a1, .int .i64 a2]) ∧ MidE w w'' b g m rb go gl gf c1 c2 c3 3 S2 S2 (some ⟨bb, o, none⟩) l wr.heap.size xi s) :=
              Lib.hid fun w' h => (rnext_any w' rb go gl gf c1 c2 c3 S 3 xi h.pr.rf).mono fun e w'' ⟨a, c, d⟩ => ⟨by rw [a, ha1, ha2], by rw [hS2] at c; exact h.ref d c⟩
            have HSM : Hid (∀ w', MidE w w' b g m rb go gl gf c1 c2 c3 3 S2 S2 (some ⟨bb, o, none⟩) l wr.heap.size xi s → Calls Tryz.prog 18 #[.pointer (some ⟨b, 0, none⟩), .pointer (some ⟨rb, 0, none⟩)] w' fun e w'' => e = .returned (.bool true) ∧ PrE w w'' b g m rb go gl gf c1 c2 c3 3 S2 S2 (some ⟨bb, o, none⟩) l) :=
              Lib.hid fun w' h => (lsame_any w' b g m rb go gl gf c1 c2 c3 S2 3 h.pr.both).mono fun e w'' ⟨a, c⟩ => ⟨a, h.pr.quiet c⟩
            clear hx3
            clear ha1 ha2 hS2
            go_wp2_with fail
            (with_reducible refine (HC1.out _ (HR.out.start _ xi s 31)).mono ?_)
            rintro e w5 ⟨rfl, hm5⟩
            have q1 := hm5.x1
            have q2 := hm5.x2
            have HM5 := Lib.hid hm5
            clear hm5
            go_wp2_with fail
            (with_reducible refine (HC2.out w5 HM5.out).mono ?_)
            rintro e w6 ⟨rfl, hm6⟩
            have HM6 := Lib.hid hm6
            clear hm6 q1 q2
            go_wp2_with fail
            (with_reducible refine (HSM.out w6 HM6.out).mono ?_)
            rintro e w7 ⟨rfl, hm7⟩
            have HM7 := Lib.hid hm7
            clear hm7
            go_wp2_with fail
            go_roundw
            case rel => exact ⟨i + 1, _, congrArg _ (by omega), by omega, by omega, HM7⟩
            case measure => simp [intOf]; omega
          · have n0 : (xk == 0) = false := by simp [k0]
            by_cases k1 : xk = 1
            · subst k1
              clear k0 n0
              obtain ⟨a1, ha1⟩ : ∃ a, (S.next xi).2.1 = a := ⟨_, rfl⟩
              obtain ⟨a2, ha2⟩ : ∃ a, (S.next xi).2.2 = a := ⟨_, rfl⟩
              obtain ⟨S2, hS2⟩ : ∃ S2, (S.next xi).1 = S2 := ⟨_, rfl⟩
              have HC1 : Hid (∀ w', MidE w w' b g m rb go gl gf c1 c2 c3 3 S S (some ⟨bb, o, none⟩) l wr.heap.size xi s → Calls Tryz.prog 6 #[.pointer (some ⟨b, 0, none⟩), .int .i64 xi] w' fun e w'' => e = .returned (.tuple #[.int .i64 a1, .int .i64 a2]) ∧ MidE w w'' b g m rb go gl gf c1 c2 c3 3 S2 S (some ⟨bb, o, none⟩) l wr.heap.size xi s) :=
                Lib.hid fun w' h => (next_any w' b g m S 3 xi h.pr.dk).mono fun e w'' ⟨a, c, d⟩ => ⟨by rw [a, ha1, ha2], by rw [hS2] at c; exact h.code d c⟩
              have HC2 : Hid (∀ w', MidE w w' b g m rb go gl gf c1 c2 c3 3 S2 S (some ⟨bb, o, none⟩) l wr.heap.size xi s → Calls Tryz.prog 7 #[.pointer (some ⟨rb, 0, none⟩), .int .i64 xi] w' fun e w'' => e = .returned (.tuple #[.int .i64 a1, .int .i64 a2]) ∧ MidE w w'' b g m rb go gl gf c1 c2 c3 3 S2 S2 (some ⟨bb, o, none⟩) l wr.heap.size xi s) :=
                Lib.hid fun w' h => (rnext_any w' rb go gl gf c1 c2 c3 S 3 xi h.pr.rf).mono fun e w'' ⟨a, c, d⟩ => ⟨by rw [a, ha1, ha2], by rw [hS2] at c; exact h.ref d c⟩
              have HSM : Hid (∀ w', MidE w w' b g m rb go gl gf c1 c2 c3 3 S2 S2 (some ⟨bb, o, none⟩) l wr.heap.size xi s → Calls Tryz.prog 18 #[.pointer (some ⟨b, 0, none⟩), .pointer (some ⟨rb, 0, none⟩)] w' fun e w'' => e = .returned (.bool true) ∧ PrE w w'' b g m rb go gl gf c1 c2 c3 3 S2 S2 (some ⟨bb, o, none⟩) l) :=
                Lib.hid fun w' h => (lsame_any w' b g m rb go gl gf c1 c2 c3 S2 3 h.pr.both).mono fun e w'' ⟨a, c⟩ => ⟨a, h.pr.quiet c⟩
              clear hx3
              clear ha1 ha2 hS2
              go_wp2_with fail
              (with_reducible refine (HC1.out _ (HR.out.start _ xi s 31)).mono ?_)
              rintro e w5 ⟨rfl, hm5⟩
              have q1 := hm5.x1
              have q2 := hm5.x2
              have HM5 := Lib.hid hm5
              clear hm5
              go_wp2_with fail
              (with_reducible refine (HC2.out w5 HM5.out).mono ?_)
              rintro e w6 ⟨rfl, hm6⟩
              have HM6 := Lib.hid hm6
              clear hm6 q1 q2
              go_wp2_with fail
              (with_reducible refine (HSM.out w6 HM6.out).mono ?_)
              rintro e w7 ⟨rfl, hm7⟩
              have HM7 := Lib.hid hm7
              clear hm7
              go_wp2_with fail
              go_roundw
              case rel => exact ⟨i + 1, _, congrArg _ (by omega), by omega, by omega, HM7⟩
              case measure => simp [intOf]; omega
            · have n1 : (xk == 1) = false := by simp [k1]
              by_cases k2 : xk = 2
              · subst k2
                clear k0 n0 k1 n1
                obtain ⟨a1, ha1⟩ : ∃ a, (S.last xi).1 = a := ⟨_, rfl⟩
                obtain ⟨a2, ha2⟩ : ∃ a, (S.last xi).2 = a := ⟨_, rfl⟩
                have HC1 : Hid (∀ w', MidE w w' b g m rb go gl gf c1 c2 c3 3 S S (some ⟨bb, o, none⟩) l wr.heap.size xi s → Calls Tryz.prog 8 #[.pointer (some ⟨b, 0, none⟩), .int .i64 xi] w' fun e w'' => e = .returned (.tuple #[.int .i64 a1, .int .i64 a2]) ∧ MidE w w'' b g m rb go gl gf c1 c2 c3 3 S S (some ⟨bb, o, none⟩) l wr.heap.size xi s) :=
                  Lib.hid fun w' h => (last_any w' b g m S 3 xi h.pr.dk).mono fun e w'' ⟨a, c⟩ => ⟨by rw [a, ha1, ha2], h.quiet c⟩
                have HC2 : Hid (∀ w', MidE w w' b g m rb go gl gf c1 c2 c3 3 S S (some ⟨bb, o, none⟩) l wr.heap.size xi s → Calls Tryz.prog 9 #[.pointer (some ⟨rb, 0, none⟩), .int .i64 xi] w' fun e w'' => e = .returned (.tuple #[.int .i64 a1, .int .i64 a2]) ∧ MidE w w'' b g m rb go gl gf c1 c2 c3 3 S S (some ⟨bb, o, none⟩) l wr.heap.size xi s) :=
                  Lib.hid fun w' h => (rlast_any w' rb go gl gf c1 c2 c3 S 3 xi h.pr.rf).mono fun e w'' ⟨a, c⟩ => ⟨by rw [a, ha1, ha2], h.quiet c⟩
                have HSM : Hid (∀ w', MidE w w' b g m rb go gl gf c1 c2 c3 3 S S (some ⟨bb, o, none⟩) l wr.heap.size xi s → Calls Tryz.prog 18 #[.pointer (some ⟨b, 0, none⟩), .pointer (some ⟨rb, 0, none⟩)] w' fun e w'' => e = .returned (.bool true) ∧ PrE w w'' b g m rb go gl gf c1 c2 c3 3 S S (some ⟨bb, o, none⟩) l) :=
                  Lib.hid fun w' h => (lsame_any w' b g m rb go gl gf c1 c2 c3 S 3 h.pr.both).mono fun e w'' ⟨a, c⟩ => ⟨a, h.pr.quiet c⟩
                clear hx3
                clear ha1 ha2
                go_wp2_with fail
                (with_reducible refine (HC1.out _ (HR.out.start _ xi s 31)).mono ?_)
                rintro e w5 ⟨rfl, hm5⟩
                have q1 := hm5.x1
                have q2 := hm5.x2
                have HM5 := Lib.hid hm5
                clear hm5
                go_wp2_with fail
                (with_reducible refine (HC2.out w5 HM5.out).mono ?_)
                rintro e w6 ⟨rfl, hm6⟩
                have HM6 := Lib.hid hm6
                clear hm6 q1 q2
                go_wp2_with fail
                (with_reducible refine (HSM.out w6 HM6.out).mono ?_)
                rintro e w7 ⟨rfl, hm7⟩
                have HM7 := Lib.hid hm7
                clear hm7
                go_wp2_with fail
                go_roundw
                case rel => exact ⟨i + 1, _, congrArg _ (by omega), by omega, by omega, HM7⟩
                case measure => simp [intOf]; omega
              · have n2 : (xk == 2) = false := by simp [k2]
                by_cases k3 : xk = 3
                · subst k3
                  clear k0 n0 k1 n1 k2 n2
                  obtain ⟨S2, hS2⟩ : ∃ S2, S.setFuse xi = S2 := ⟨_, rfl⟩
                  have HC1 : Hid (∀ w', MidE w w' b g m rb go gl gf c1 c2 c3 3 S S (some ⟨bb, o, none⟩) l wr.heap.size xi s → Calls Tryz.prog 10 #[.pointer (some ⟨b, 0, none⟩), .int .i64 xi] w' fun e w'' => e = .returned (.tuple #[]) ∧ MidE w w'' b g m rb go gl gf c1 c2 c3 3 S2 S (some ⟨bb, o, none⟩) l wr.heap.size xi s) :=
                    Lib.hid fun w' h => (fuse_any w' b g m S 3 h.pr.dk xi HY.out.2.1.2).mono fun e w'' ⟨a, c, d⟩ => ⟨a, by rw [hS2] at c; exact h.code d c⟩
                  have HC2 : Hid (∀ w', MidE w w' b g m rb go gl gf c1 c2 c3 3 S2 S (some ⟨bb, o, none⟩) l wr.heap.size xi s → Calls Tryz.prog 11 #[.pointer (some ⟨rb, 0, none⟩), .int .i64 xi] w' fun e w'' => e = .returned (.tuple #[]) ∧ MidE w w'' b g m rb go gl gf c1 c2 c3 3 S2 S2 (some ⟨bb, o, none⟩) l wr.heap.size xi s) :=
                    Lib.hid fun w' h => (rfuse_any w' rb go gl gf c1 c2 c3 S 3 h.pr.rf xi HY.out.2.1.2).mono fun e w'' ⟨a, c, d⟩ => ⟨a, by rw [hS2] at c; exact h.ref d c⟩
                  have HSM : Hid (∀ w', MidE w w' b g m rb go gl gf c1 c2 c3 3 S2 S2 (some ⟨bb, o, none⟩) l wr.heap.size xi s → Calls Tryz.prog 18 #[.pointer (some ⟨b, 0, none⟩), .pointer (some ⟨rb, 0, none⟩)] w' fun e w'' => e = .returned (.bool true) ∧ PrE w w'' b g m rb go gl gf c1 c2 c3 3 S2 S2 (some ⟨bb, o, none⟩) l) :=
                    Lib.hid fun w' h => (lsame_any w' b g m rb go gl gf c1 c2 c3 S2 3 h.pr.both).mono fun e w'' ⟨a, c⟩ => ⟨a, h.pr.quiet c⟩
                  clear hx3
                  clear hS2
                  go_wp2_with fail
                  (with_reducible refine (HC1.out _ (HR.out.start _ xi s 31)).mono ?_)
                  rintro e w5 ⟨rfl, hm5⟩
                  have q1 := hm5.x1
                  have q2 := hm5.x2
                  have HM5 := Lib.hid hm5
                  clear hm5
                  go_wp2_with fail
                  (with_reducible refine (HC2.out w5 HM5.out).mono ?_)
                  rintro e w6 ⟨rfl, hm6⟩
                  have HM6 := Lib.hid hm6
                  clear hm6 q1 q2
                  go_wp2_with fail
                  (with_reducible refine (HSM.out w6 HM6.out).mono ?_)
                  rintro e w7 ⟨rfl, hm7⟩
                  have HM7 := Lib.hid hm7
                  clear hm7
                  go_wp2_with fail
                  go_roundw
                  case rel => exact ⟨i + 1, _, congrArg _ (by omega), by omega, by omega, HM7⟩
                  case measure => simp [intOf]; omega
                · have n3 : (xk == 3) = false := by simp [k3]
                  by_cases k4 : xk = 4
                  · subst k4
                    clear k0 n0 k1 n1 k2 n2 k3 n3
                    obtain ⟨a2, ha2⟩ : ∃ a, (S.wr xi s).2 = a := ⟨_, rfl⟩
                    obtain ⟨S2, hS2⟩ : ∃ S2, (S.wr xi s).1 = S2 := ⟨_, rfl⟩
                    have HC1 : Hid (∀ w', MidE w w' b g m rb go gl gf c1 c2 c3 3 S S (some ⟨bb, o, none⟩) l wr.heap.size xi s → Calls Tryz.prog 12 #[.pointer (some ⟨b, 0, none⟩), .int .i64 xi, .string s] w' fun e w'' => e = .returned (.int .i64 a2) ∧ MidE w w'' b g m rb go gl gf c1 c2 c3 3 S2 S (some ⟨bb, o, none⟩) l wr.heap.size xi s) :=
                      Lib.hid fun w' h => (write_any w' b g m S 3 xi s h.pr.dk (by omega)).mono fun e w'' ⟨a, c, d⟩ => ⟨by rw [a, ha2], by rw [hS2] at c; exact h.code d c⟩
                    have HC2 : Hid (∀ w', MidE w w' b g m rb go gl gf c1 c2 c3 3 S2 S (some ⟨bb, o, none⟩) l wr.heap.size xi s → Calls Tryz.prog 13 #[.pointer (some ⟨rb, 0, none⟩), .int .i64 xi, .string s] w' fun e w'' => e = .returned (.int .i64 a2) ∧ MidE w w'' b g m rb go gl gf c1 c2 c3 3 S2 S2 (some ⟨bb, o, none⟩) l wr.heap.size xi s) :=
                      Lib.hid fun w' h => (rwrite_any w' rb go gl gf c1 c2 c3 S 3 h.pr.rf xi s).mono fun e w'' ⟨a, c, d⟩ => ⟨by rw [a, ha2], by rw [hS2] at c; exact h.ref d c⟩
                    have HSM : Hid (∀ w', MidE w w' b g m rb go gl gf c1 c2 c3 3 S2 S2 (some ⟨bb, o, none⟩) l wr.heap.size xi s → Calls Tryz.prog 18 #[.pointer (some ⟨b, 0, none⟩), .pointer (some ⟨rb, 0, none⟩)] w' fun e w'' => e = .returned (.bool true) ∧ PrE w w'' b g m rb go gl gf c1 c2 c3 3 S2 S2 (some ⟨bb, o, none⟩) l) :=
                      Lib.hid fun w' h => (lsame_any w' b g m rb go gl gf c1 c2 c3 S2 3 h.pr.both).mono fun e w'' ⟨a, c⟩ => ⟨a, h.pr.quiet c⟩
                    clear hx3
                    clear ha2 hS2
                    go_wp2_with fail
                    (with_reducible refine (HC1.out _ (HR.out.start _ xi s 31)).mono ?_)
                    rintro e w5 ⟨rfl, hm5⟩
                    have q1 := hm5.x1
                    have q2 := hm5.x2
                    have HM5 := Lib.hid hm5
                    clear hm5
                    go_wp2_with fail
                    (with_reducible refine (HC2.out w5 HM5.out).mono ?_)
                    rintro e w6 ⟨rfl, hm6⟩
                    have HM6 := Lib.hid hm6
                    clear hm6 q1 q2
                    go_wp2_with fail
                    (with_reducible refine (HSM.out w6 HM6.out).mono ?_)
                    rintro e w7 ⟨rfl, hm7⟩
                    have HM7 := Lib.hid hm7
                    clear hm7
                    go_wp2_with fail
                    go_roundw
                    case rel => exact ⟨i + 1, _, congrArg _ (by omega), by omega, by omega, HM7⟩
                    case measure => simp [intOf]; omega
                  · have n4 : (xk == 4) = false := by simp [k4]
                    by_cases k5 : xk = 5
                    · subst k5
                      clear k0 n0 k1 n1 k2 n2 k3 n3 k4 n4
                      obtain ⟨a2, ha2⟩ : ∃ a, S.sync.2 = a := ⟨_, rfl⟩
                      obtain ⟨S2, hS2⟩ : ∃ S2, S.sync.1 = S2 := ⟨_, rfl⟩
                      have HC1 : Hid (∀ w', MidE w w' b g m rb go gl gf c1 c2 c3 3 S S (some ⟨bb, o, none⟩) l wr.heap.size xi s → Calls Tryz.prog 14 #[.pointer (some ⟨b, 0, none⟩)] w' fun e w'' => e = .returned (.int .i64 a2) ∧ MidE w w'' b g m rb go gl gf c1 c2 c3 3 S2 S (some ⟨bb, o, none⟩) l wr.heap.size xi s) :=
                        Lib.hid fun w' h => (sync_any w' b g m S 3 h.pr.dk).mono fun e w'' ⟨a, c, d⟩ => ⟨by rw [a, ha2], by rw [hS2] at c; exact h.code d c⟩
                      have HC2 : Hid (∀ w', MidE w w' b g m rb go gl gf c1 c2 c3 3 S2 S (some ⟨bb, o, none⟩) l wr.heap.size xi s → Calls Tryz.prog 15 #[.pointer (some ⟨rb, 0, none⟩)] w' fun e w'' => e = .returned (.int .i64 a2) ∧ MidE w w'' b g m rb go gl gf c1 c2 c3 3 S2 S2 (some ⟨bb, o, none⟩) l wr.heap.size xi s) :=
                        Lib.hid fun w' h => (rsync_any w' rb go gl gf c1 c2 c3 S 3 h.pr.rf).mono fun e w'' ⟨a, c, d⟩ => ⟨by rw [a, ha2], by rw [hS2] at c; exact h.ref d c⟩
                      have HSM : Hid (∀ w', MidE w w' b g m rb go gl gf c1 c2 c3 3 S2 S2 (some ⟨bb, o, none⟩) l wr.heap.size xi s → Calls Tryz.prog 18 #[.pointer (some ⟨b, 0, none⟩), .pointer (some ⟨rb, 0, none⟩)] w' fun e w'' => e = .returned (.bool true) ∧ PrE w w'' b g m rb go gl gf c1 c2 c3 3 S2 S2 (some ⟨bb, o, none⟩) l) :=
                        Lib.hid fun w' h => (lsame_any w' b g m rb go gl gf c1 c2 c3 S2 3 h.pr.both).mono fun e w'' ⟨a, c⟩ => ⟨a, h.pr.quiet c⟩
                      clear hx3
                      clear ha2 hS2
                      go_wp2_with fail
                      (with_reducible refine (HC1.out _ (HR.out.start _ xi s 31)).mono ?_)
                      rintro e w5 ⟨rfl, hm5⟩
                      have q1 := hm5.x1
                      have q2 := hm5.x2
                      have HM5 := Lib.hid hm5
                      clear hm5
                      go_wp2_with fail
                      (with_reducible refine (HC2.out w5 HM5.out).mono ?_)
                      rintro e w6 ⟨rfl, hm6⟩
                      have HM6 := Lib.hid hm6
                      clear hm6 q1 q2
                      go_wp2_with fail
                      (with_reducible refine (HSM.out w6 HM6.out).mono ?_)
                      rintro e w7 ⟨rfl, hm7⟩
                      have HM7 := Lib.hid hm7
                      clear hm7
                      go_wp2_with fail
                      go_roundw
                      case rel => exact ⟨i + 1, _, congrArg _ (by omega), by omega, by omega, HM7⟩
                      case measure => simp [intOf]; omega
                    · have n5 : (xk == 5) = false := by simp [k5]
                      clear k0 k1 k2 k3 k4 k5
                      obtain ⟨S2, hS2⟩ : ∃ S2, S.crash (bitOf xi) = S2 := ⟨_, rfl⟩
                      have HC1 : Hid (∀ w', MidE w w' b g m rb go gl gf c1 c2 c3 3 S S (some ⟨bb, o, none⟩) l wr.heap.size xi s → Calls Tryz.prog 16 #[.pointer (some ⟨b, 0, none⟩), .int .i64 xi] w' fun e w'' => e = .returned (.tuple #[]) ∧ MidE w w'' b g m rb go gl gf c1 c2 c3 3 S2 S (some ⟨bb, o, none⟩) l wr.heap.size xi s) :=
                        Lib.hid fun w' h => (crash_any w' b g m S 3 xi h.pr.dk).mono fun e w'' ⟨a, c, d⟩ => ⟨a, by rw [hS2] at c; exact h.code d c⟩
                      have HC2 : Hid (∀ w', MidE w w' b g m rb go gl gf c1 c2 c3 3 S2 S (some ⟨bb, o, none⟩) l wr.heap.size xi s → Calls Tryz.prog 17 #[.pointer (some ⟨rb, 0, none⟩), .int .i64 xi] w' fun e w'' => e = .returned (.tuple #[]) ∧ MidE w w'' b g m rb go gl gf c1 c2 c3 3 S2 S2 (some ⟨bb, o, none⟩) l wr.heap.size xi s) :=
                        Lib.hid fun w' h => (rcrash_any w' rb go gl gf c1 c2 c3 S 3 h.pr.rf xi).mono fun e w'' ⟨a, c, d⟩ => ⟨a, by rw [hS2] at c; exact h.ref d c⟩
                      have HSM : Hid (∀ w', MidE w w' b g m rb go gl gf c1 c2 c3 3 S2 S2 (some ⟨bb, o, none⟩) l wr.heap.size xi s → Calls Tryz.prog 18 #[.pointer (some ⟨b, 0, none⟩), .pointer (some ⟨rb, 0, none⟩)] w' fun e w'' => e = .returned (.bool true) ∧ PrE w w'' b g m rb go gl gf c1 c2 c3 3 S2 S2 (some ⟨bb, o, none⟩) l) :=
                        Lib.hid fun w' h => (lsame_any w' b g m rb go gl gf c1 c2 c3 S2 3 h.pr.both).mono fun e w'' ⟨a, c⟩ => ⟨a, h.pr.quiet c⟩
                      clear hx3
                      clear hS2
                      go_wp2_with fail
                      (with_reducible refine (HC1.out _ (HR.out.start _ xi s 31)).mono ?_)
                      rintro e w5 ⟨rfl, hm5⟩
                      have q1 := hm5.x1
                      have q2 := hm5.x2
                      have HM5 := Lib.hid hm5
                      clear hm5
                      go_wp2_with fail
                      (with_reducible refine (HC2.out w5 HM5.out).mono ?_)
                      rintro e w6 ⟨rfl, hm6⟩
                      have HM6 := Lib.hid hm6
                      clear hm6 q1 q2
                      go_wp2_with fail
                      (with_reducible refine (HSM.out w6 HM6.out).mono ?_)
                      rintro e w7 ⟨rfl, hm7⟩
                      have HM7 := Lib.hid hm7
                      clear hm7
                      go_wp2_with fail
                      go_roundw
                      case rel => exact ⟨i + 1, _, congrArg _ (by omega), by omega, by omega, HM7⟩
                      case measure => simp [intOf]; omega
        · have hb1 : ¬ (300 : Int) < (xs.size : Int) := by omega
          obtain ⟨s, hs⟩ : ∃ s, s = xs := ⟨_, rfl⟩
          have hx3 : s.size ≤ 300 := by rw [hs]; omega
          subst hs
          by_cases k0 : xk = 0
          · subst k0
            obtain ⟨a1, ha1⟩ : ∃ a, (S.next xi).2.1 = a := ⟨_, rfl⟩
            obtain ⟨a2, ha2⟩ : ∃ a, (S.next xi).2.2 = a := ⟨_, rfl⟩
            obtain ⟨S2, hS2⟩ : ∃ S2, (S.next xi).1 = S2 := ⟨_, rfl⟩
            have HC1 : Hid (∀ w', MidE w w' b g m rb go gl gf c1 c2 c3 3 S S (some ⟨bb, o, none⟩) l wr.heap.size xi s → Calls Tryz.prog 6 #[.pointer (some ⟨b, 0, none⟩), .int .i64 xi] w' fun e w'' => e = .returned (.tuple #[.int .i64 a1, .int .i64 a2]) ∧ MidE w w'' b g m rb go gl gf c1 c2 c3 3 S2 S (some ⟨bb, o, none⟩) l wr.heap.size xi s) :=
              Lib.hid fun w' h => (next_any w' b g m S 3 xi h.pr.dk).mono fun e w'' ⟨a, c, d⟩ => ⟨by rw [a, ha1, ha2], by rw [hS2] at c; exact h.code d c⟩
            have HC2 : Hid (∀ w', MidE w w' b g m rb go gl gf c1 c2 c3 3 S2 S (some ⟨bb, o, none⟩) l wr.heap.size xi s → Calls Tryz.prog 7 #[.pointer (some ⟨rb, 0, none⟩), .int .i64 xi] w' fun e w'' => e = .returned (.tuple #[.int .i64 a1, .int .i64 a2]) ∧ MidE w w'' b g m rb go gl gf c1 c2 c3 3 S2 S2 (some ⟨bb, o, none⟩) l wr.heap.size xi s) :=
              Lib.hid fun w' h => (rnext_any w' rb go gl gf c1 c2 c3 S 3 xi h.pr.rf).mono fun e w'' ⟨a, c, d⟩ => ⟨by rw [a, ha1, ha2], by rw [hS2] at c; exact h.ref d c⟩
            have HSM : Hid (∀ w', MidE w w' b g m rb go gl gf c1 c2 c3 3 S2 S2 (some ⟨bb, o, none⟩) l wr.heap.size xi s → Calls Tryz.prog 18 #[.pointer (some ⟨b, 0, none⟩), .pointer (some ⟨rb, 0, none⟩)] w' fun e w'' => e = .returned (.bool true) ∧ PrE w w'' b g m rb go gl gf c1 c2 c3 3 S2 S2 (some ⟨bb, o, none⟩) l) :=
              Lib.hid fun w' h => (lsame_any w' b g m rb go gl gf c1 c2 c3 S2 3 h.pr.both).mono fun e w'' ⟨a, c⟩ => ⟨a, h.pr.quiet c⟩
            clear hx3
            clear ha1 ha2 hS2
            go_wp2_with fail
            (with_reducible refine (HC1.out _ (HR.out.start _ xi s 31)).mono ?_)
            rintro e w5 ⟨rfl, hm5⟩
            have q1 := hm5.x1
            have q2 := hm5.x2
            have HM5 := Lib.hid hm5
            clear hm5
            go_wp2_with fail
            (with_reducible refine (HC2.out w5 HM5.out).mono ?_)
            rintro e w6 ⟨rfl, hm6⟩
            have HM6 := Lib.hid hm6
            clear hm6 q1 q2
            go_wp2_with fail
            (with_reducible refine (HSM.out w6 HM6.out).mono ?_)
            rintro e w7 ⟨rfl, hm7⟩
            have HM7 := Lib.hid hm7
            clear hm7
            go_wp2_with fail
            go_roundw
            case rel => exact ⟨i + 1, _, congrArg _ (by omega), by omega, by omega, HM7⟩
            case measure => simp [intOf]; omega
          · have n0 : (xk == 0) = false := by simp [k0]
            by_cases k1 : xk = 1
            · subst k1
              clear k0 n0
              obtain ⟨a1, ha1⟩ : ∃ a, (S.next xi).2.1 = a := ⟨_, rfl⟩
              obtain ⟨a2, ha2⟩ : ∃ a, (S.next xi).2.2 = a := ⟨_, rfl⟩
              obtain ⟨S2, hS2⟩ : ∃ S2, (S.next xi).1 = S2 := ⟨_, rfl⟩
              have HC1 : Hid (∀ w', MidE w w' b g m rb go gl gf c1 c2 c3 3 S S (some ⟨bb, o, none⟩) l wr.heap.size xi s → Calls Tryz.prog 6 #[.pointer (some ⟨b, 0, none⟩), .int .i64 xi] w' fun e w'' => e = .returned (.tuple #[.int .i64 a1, .int .i64 a2]) ∧ MidE w w'' b g m rb go gl gf c1 c2 c3 3 S2 S (some ⟨bb, o, none⟩) l wr.heap.size xi s) :=
                Lib.hid fun w' h => (next_any w' b g m S 3 xi h.pr.dk).mono fun e w'' ⟨a, c, d⟩ => ⟨by rw [a, ha1, ha2], by rw [hS2] at c; exact h.code d c⟩
              have HC2 : Hid (∀ w', MidE w w' b g m rb go gl gf c1 c2 c3 3 S2 S (some ⟨bb, o, none⟩) l wr.heap.size xi s → Calls Tryz.prog 7 #[.pointer (some ⟨rb, 0, none⟩), .int .i64 xi] w' fun e w'' => e = .returned (.tuple #[.int .i64 a1, .int .i64 a2]) ∧ MidE w w'' b g m rb go gl gf c1 c2 c3 3 S2 S2 (some ⟨bb, o, none⟩) l wr.heap.size xi s) :=
                Lib.hid fun w' h => (rnext_any w' rb go gl gf c1 c2 c3 S 3 xi h.pr.rf).mono fun e w'' ⟨a, c, d⟩ => ⟨by rw [a, ha1, ha2], by rw [hS2] at c; exact h.ref d c⟩
              have HSM : Hid (∀ w', MidE w w' b g m rb go gl gf c1 c2 c3 3 S2 S2 (some ⟨bb, o, none⟩) l wr.heap.size xi s → Calls Tryz.prog 18 #[.pointer (some ⟨b, 0, none⟩), .pointer (some ⟨rb, 0, none⟩)] w' fun e w'' => e = .returned (.bool true) ∧ PrE w w'' b g m rb go gl gf c1 c2 c3 3 S2 S2 (some ⟨bb, o, none⟩) l) :=
                Lib.hid fun w' h => (lsame_any w' b g m rb go gl gf c1 c2 c3 S2 3 h.pr.both).mono fun e w'' ⟨a, c⟩ => ⟨a, h.pr.quiet c⟩
              clear hx3
              clear ha1 ha2 hS2
              go_wp2_with fail
              (with_reducible refine (HC1.out _ (HR.out.start _ xi s 31)).mono ?_)
              rintro e w5 ⟨rfl, hm5⟩
              have q1 := hm5.x1
              have q2 := hm5.x2
              have HM5 := Lib.hid hm5
              clear hm5
              go_wp2_with fail
              (with_reducible refine (HC2.out w5 HM5.out).mono ?_)
              rintro e w6 ⟨rfl, hm6⟩
              have HM6 := Lib.hid hm6
              clear hm6 q1 q2
              go_wp2_with fail
              (with_reducible refine (HSM.out w6 HM6.out).mono ?_)
              rintro e w7 ⟨rfl, hm7⟩
              have HM7 := Lib.hid hm7
              clear hm7
              go_wp2_with fail
              go_roundw
              case rel => exact ⟨i + 1, _, congrArg _ (by omega), by omega, by omega, HM7⟩
              case measure => simp [intOf]; omega
            · have n1 : (xk == 1) = false := by simp [k1]
              by_cases k2 : xk = 2
              · subst k2
                clear k0 n0 k1 n1
                obtain ⟨a1, ha1⟩ : ∃ a, (S.last xi).1 = a := ⟨_, rfl⟩
                obtain ⟨a2, ha2⟩ : ∃ a, (S.last xi).2 = a := ⟨_, rfl⟩
                have HC1 : Hid (∀ w', MidE w w' b g m rb go gl gf c1 c2 c3 3 S S (some ⟨bb, o, none⟩) l wr.heap.size xi s → Calls Tryz.prog 8 #[.pointer (some ⟨b, 0, none⟩), .int .i64 xi] w' fun e w'' => e = .returned (.tuple #[.int .i64 a1, .int .i64 a2]) ∧ MidE w w'' b g m rb go gl gf c1 c2 c3 3 S S (some ⟨bb, o, none⟩) l wr.heap.size xi s) :=
                  Lib.hid fun w' h => (last_any w' b g m S 3 xi h.pr.dk).mono fun e w'' ⟨a, c⟩ => ⟨by rw [a, ha1, ha2], h.quiet c⟩
                have HC2 : Hid (∀ w', MidE w w' b g m rb go gl gf c1 c2 c3 3 S S (some ⟨bb, o, none⟩) l wr.heap.size xi s → Calls Tryz.prog 9 #[.pointer (some ⟨rb, 0, none⟩), .int .i64 xi] w' fun e w'' => e = .returned (.tuple #[.int .i64 a1, .int .i64 a2]) ∧ MidE w w'' b g m rb go gl gf c1 c2 c3 3 S S (some ⟨bb, o, none⟩) l wr.heap.size xi s) :=
                  Lib.hid fun w' h => (rlast_any w' rb go gl gf c1 c2 c3 S 3 xi h.pr.rf).mono fun e w'' ⟨a, c⟩ => ⟨by rw [a, ha1, ha2], h.quiet c⟩
                have HSM : Hid (∀ w', MidE w w' b g m rb go gl gf c1 c2 c3 3 S S (some ⟨bb, o, none⟩) l wr.heap.size xi s → Calls Tryz.prog 18 #[.pointer (some ⟨b, 0, none⟩), .pointer (some ⟨rb, 0, none⟩)] w' fun e w'' => e = .returned (.bool true) ∧ PrE w w'' b g m rb go gl gf c1 c2 c3 3 S S (some ⟨bb, o, none⟩) l) :=
                  Lib.hid fun w' h => (lsame_any w' b g m rb go gl gf c1 c2 c3 S 3 h.pr.both).mono fun e w'' ⟨a, c⟩ => ⟨a, h.pr.quiet c⟩
                clear hx3
                clear ha1 ha2
                go_wp2_with fail
                (with_reducible refine (HC1.out _ (HR.out.start _ xi s 31)).mono ?_)
                rintro e w5 ⟨rfl, hm5⟩
                have q1 := hm5.x1
                have q2 := hm5.x2
                have HM5 := Lib.hid hm5
                clear hm5
                go_wp2_with fail
                (with_reducible refine (HC2.out w5 HM5.out).mono ?_)
                rintro e w6 ⟨rfl, hm6⟩
                have HM6 := Lib.hid hm6
                clear hm6 q1 q2
                go_wp2_with fail
                (with_reducible refine (HSM.out w6 HM6.out).mono ?_)
                rintro e w7 ⟨rfl, hm7⟩
                have HM7 := Lib.hid hm7
                clear hm7
                go_wp2_with fail
                go_roundw
                case rel => exact ⟨i + 1, _, congrArg _ (by omega), by omega, by omega, HM7⟩
                case measure => simp [intOf]; omega
              · have n2 : (xk == 2) = false := by simp [k2]
                by_cases k3 : xk = 3
                · subst k3
                  clear k0 n0 k1 n1 k2 n2
                  obtain ⟨S2, hS2⟩ : ∃ S2, S.setFuse xi = S2 := ⟨_, rfl⟩
                  have HC1 : Hid (∀ w', MidE w w' b g m rb go gl gf c1 c2 c3 3 S S (some ⟨bb, o, none⟩) l wr.heap.size xi s → Calls Tryz.prog 10 #[.pointer (some ⟨b, 0, none⟩), .int .i64 xi] w' fun e w'' => e = .returned (.tuple #[]) ∧ MidE w w'' b g m rb go gl gf c1 c2 c3 3 S2 S (some ⟨bb, o, none⟩) l wr.heap.size xi s) :=
                    Lib.hid fun w' h => (fuse_any w' b g m S 3 h.pr.dk xi HY.out.2.1.2).mono fun e w'' ⟨a, c, d⟩ => ⟨a, by rw [hS2] at c; exact h.code d c⟩
                  have HC2 : Hid (∀ w', MidE w w' b g m rb go gl gf c1 c2 c3 3 S2 S (some ⟨bb, o, none⟩) l wr.heap.size xi s → Calls Tryz.prog 11 #[.pointer (some ⟨rb, 0, none⟩), .int .i64 xi] w' fun e w'' => e = .returned (.tuple #[]) ∧ MidE w w'' b g m rb go gl gf c1 c2 c3 3 S2 S2 (some ⟨bb, o, none⟩) l wr.heap.size xi s) :=
                    Lib.hid fun w' h => (rfuse_any w' rb go gl gf c1 c2 c3 S 3 h.pr.rf xi HY.out.2.1.2).mono fun e w'' ⟨a, c, d⟩ => ⟨a, by rw [hS2] at c; exact h.ref d c⟩
                  have HSM : Hid (∀ w', MidE w w' b g m rb go gl gf c1 c2 c3 3 S2 S2 (some ⟨bb, o, none⟩) l wr.heap.size xi s → Calls Tryz.prog 18 #[.pointer (some ⟨b, 0, none⟩), .pointer (some ⟨rb, 0, none⟩)] w' fun e w'' => e = .returned (.bool true) ∧ PrE w w'' b g m rb go gl gf c1 c2 c3 3 S2 S2 (some ⟨bb, o, none⟩) l) :=
                    Lib.hid fun w' h => (lsame_any w' b g m rb go gl gf c1 c2 c3 S2 3 h.pr.both).mono fun e w'' ⟨a, c⟩ => ⟨a, h.pr.quiet c⟩
                  clear hx3
                  clear hS2
                  go_wp2_with fail
                  (with_reducible refine (HC1.out _ (HR.out.start _ xi s 31)).mono ?_)
                  rintro e w5 ⟨rfl, hm5⟩
                  have q1 := hm5.x1
                  have q2 := hm5.x2
                  have HM5 := Lib.hid hm5
                  clear hm5
                  go_wp2_with fail
                  (with_reducible refine (HC2.out w5 HM5.out).mono ?_)
                  rintro e w6 ⟨rfl, hm6⟩
                  have HM6 := Lib.hid hm6
                  clear hm6 q1 q2
                  go_wp2_with fail
                  (with_reducible refine (HSM.out w6 HM6.out).mono ?_)
                  rintro e w7 ⟨rfl, hm7⟩
                  have HM7 := Lib.hid hm7
                  clear hm7
                  go_wp2_with fail
                  go_roundw
                  case rel => exact ⟨i + 1, _, congrArg _ (by omega), by omega, by omega, HM7⟩
                  case measure => simp [intOf]; omega
                · have n3 : (xk == 3) = false := by simp [k3]
                  by_cases k4 : xk = 4
                  · subst k4
                    clear k0 n0 k1 n1 k2 n2 k3 n3
                    obtain ⟨a2, ha2⟩ : ∃ a, (S.wr xi s).2 = a := ⟨_, rfl⟩
                    obtain ⟨S2, hS2⟩ : ∃ S2, (S.wr xi s).1 = S2 := ⟨_, rfl⟩
                    have HC1 : Hid (∀ w', MidE w w' b g m rb go gl gf c1 c2 c3 3 S S (some ⟨bb, o, none⟩) l wr.heap.size xi s → Calls Tryz.prog 12 #[.pointer (some ⟨b, 0, none⟩), .int .i64 xi, .string s] w' fun e w'' => e = .returned (.int .i64 a2) ∧ MidE w w'' b g m rb go gl gf c1 c2 c3 3 S2 S (some ⟨bb, o, none⟩) l wr.heap.size xi s) :=
                      Lib.hid fun w' h => (write_any w' b g m S 3 xi s h.pr.dk (by omega)).mono fun e w'' ⟨a, c, d⟩ => ⟨by rw [a, ha2], by rw [hS2] at c; exact h.code d c⟩
                    have HC2 : Hid (∀ w', MidE w w' b g m rb go gl gf c1 c2 c3 3 S2 S (some ⟨bb, o, none⟩) l wr.heap.size xi s → Calls Tryz.prog 13 #[.pointer (some ⟨rb, 0, none⟩), .int .i64 xi, .string s] w' fun e w'' => e = .returned (.int .i64 a2) ∧ MidE w w'' b g m rb go gl gf c1 c2 c3 3 S2 S2 (some ⟨bb, o, none⟩) l wr.heap.size xi s) :=
                      Lib.hid fun w' h => (rwrite_any w' rb go gl gf c1 c2 c3 S 3 h.pr.rf xi s).mono fun e w'' ⟨a, c, d⟩ => ⟨by rw [a, ha2], by rw [hS2] at c; exact h.ref d c⟩
                    have HSM : Hid (∀ w', MidE w w' b g m rb go gl gf c1 c2 c3 3 S2 S2 (some ⟨bb, o, none⟩) l wr.heap.size xi s → Calls Tryz.prog 18 #[.pointer (some ⟨b, 0, none⟩), .pointer (some ⟨rb, 0, none⟩)] w' fun e w'' => e = .returned (.bool true) ∧ PrE w w'' b g m rb go gl gf c1 c2 c3 3 S2 S2 (some ⟨bb, o, none⟩) l) :=
                      Lib.hid fun w' h => (lsame_any w' b g m rb go gl gf c1 c2 c3 S2 3 h.pr.both).mono fun e w'' ⟨a, c⟩ => ⟨a, h.pr.quiet c⟩
                    clear hx3
                    clear ha2 hS2
                    go_wp2_with fail
                    (with_reducible refine (HC1.out _ (HR.out.start _ xi s 31)).mono ?_)
                    rintro e w5 ⟨rfl, hm5⟩
                    have q1 := hm5.x1
                    have q2 := hm5.x2
                    have HM5 := Lib.hid hm5
                    clear hm5
                    go_wp2_with fail
                    (with_reducible refine (HC2.out w5 HM5.out).mono ?_)
                    rintro e w6 ⟨rfl, hm6⟩
                    have HM6 := Lib.hid hm6
                    clear hm6 q1 q2
                    go_wp2_with fail
                    (with_reducible refine (HSM.out w6 HM6.out).mono ?_)
                    rintro e w7 ⟨rfl, hm7⟩
                    have HM7 := Lib.hid hm7
                    clear hm7
                    go_wp2_with fail
                    go_roundw
                    case rel => exact ⟨i + 1, _, congrArg _ (by omega), by omega, by omega, HM7⟩
                    case measure => simp [intOf]; omega
                  · have n4 : (xk == 4) = false := by simp [k4]
                    by_cases k5 : xk = 5
                    · subst k5
                      clear k0 n0 k1 n1 k2 n2 k3 n3 k4 n4
                      obtain ⟨a2, ha2⟩ : ∃ a, S.sync.2 = a := ⟨_, rfl⟩
                      obtain ⟨S2, hS2⟩ : ∃ S2, S.sync.1 = S2 := ⟨_, rfl⟩
                      have HC1 : Hid (∀ w', MidE w w' b g m rb go gl gf c1 c2 c3 3 S S (some ⟨bb, o, none⟩) l wr.heap.size xi s → Calls Tryz.prog 14 #[.pointer (some ⟨b, 0, none⟩)] w' fun e w'' => e = .returned (.int .i64 a2) ∧ MidE w w'' b g m rb go gl gf c1 c2 c3 3 S2 S (some ⟨bb, o, none⟩) l wr.heap.size xi s) :=
                        Lib.hid fun w' h => (sync_any w' b g m S 3 h.pr.dk).mono fun e w'' ⟨a, c, d⟩ => ⟨by rw [a, ha2], by rw [hS2] at c; exact h.code d c⟩
                      have HC2 : Hid (∀ w', MidE w w' b g m rb go gl gf c1 c2 c3 3 S2 S (some ⟨bb, o, none⟩) l wr.heap.size xi s → Calls Tryz.prog 15 #[.pointer (some ⟨rb, 0, none⟩)] w' fun e w'' => e = .returned (.int .i64 a2) ∧ MidE w w'' b g m rb go gl gf c1 c2 c3 3 S2 S2 (some ⟨bb, o, none⟩) l wr.heap.size xi s) :=
                        Lib.hid fun w' h => (rsync_any w' rb go gl gf c1 c2 c3 S 3 h.pr.rf).mono fun e w'' ⟨a, c, d⟩ => ⟨by rw [a, ha2], by rw [hS2] at c; exact h.ref d c⟩
                      have HSM : Hid (∀ w', MidE w w' b g m rb go gl gf c1 c2 c3 3 S2 S2 (some ⟨bb, o, none⟩) l wr.heap.size xi s → Calls Tryz.prog 18 #[.pointer (some ⟨b, 0, none⟩), .pointer (some ⟨rb, 0, none⟩)] w' fun e w'' => e = .returned (.bool true) ∧ PrE w w'' b g m rb go gl gf c1 c2 c3 3 S2 S2 (some ⟨bb, o, none⟩) l) :=
                        Lib.hid fun w' h => (lsame_any w' b g m rb go gl gf c1 c2 c3 S2 3 h.pr.both).mono fun e w'' ⟨a, c⟩ => ⟨a, h.pr.quiet c⟩
                      clear hx3
                      clear ha2 hS2
                      go_wp2_with fail
                      (with_reducible refine (HC1.out _ (HR.out.start _ xi s 31)).mono ?_)
                      rintro e w5 ⟨rfl, hm5⟩
                      have q1 := hm5.x1
                      have q2 := hm5.x2
                      have HM5 := Lib.hid hm5
                      clear hm5
                      go_wp2_with fail
                      (with_reducible refine (HC2.out w5 HM5.out).mono ?_)
                      rintro e w6 ⟨rfl, hm6⟩
                      have HM6 := Lib.hid hm6
                      clear hm6 q1 q2
                      go_wp2_with fail
                      (with_reducible refine (HSM.out w6 HM6.out).mono ?_)
                      rintro e w7 ⟨rfl, hm7⟩
                      have HM7 := Lib.hid hm7
                      clear hm7
                      go_wp2_with fail
                      go_roundw
                      case rel => exact ⟨i + 1, _, congrArg _ (by omega), by omega, by omega, HM7⟩
                      case measure => simp [intOf]; omega
                    · have n5 : (xk == 5) = false := by simp [k5]
                      clear k0 k1 k2 k3 k4 k5
                      obtain ⟨S2, hS2⟩ : ∃ S2, S.crash (bitOf xi) = S2 := ⟨_, rfl⟩
                      have HC1 : Hid (∀ w', MidE w w' b g m rb go gl gf c1 c2 c3 3 S S (some ⟨bb, o, none⟩) l wr.heap.size xi s → Calls Tryz.prog 16 #[.pointer (some ⟨b, 0, none⟩), .int .i64 xi] w' fun e w'' => e = .returned (.tuple #[]) ∧ MidE w w'' b g m rb go gl gf c1 c2 c3 3 S2 S (some ⟨bb, o, none⟩) l wr.heap.size xi s) :=
                        Lib.hid fun w' h => (crash_any w' b g m S 3 xi h.pr.dk).mono fun e w'' ⟨a, c, d⟩ => ⟨a, by rw [hS2] at c; exact h.code d c⟩
                      have HC2 : Hid (∀ w', MidE w w' b g m rb go gl gf c1 c2 c3 3 S2 S (some ⟨bb, o, none⟩) l wr.heap.size xi s → Calls Tryz.prog 17 #[.pointer (some ⟨rb, 0, none⟩), .int .i64 xi] w' fun e w'' => e = .returned (.tuple #[]) ∧ MidE w w'' b g m rb go gl gf c1 c2 c3 3 S2 S2 (some ⟨bb, o, none⟩) l wr.heap.size xi s) :=
                        Lib.hid fun w' h => (rcrash_any w' rb go gl gf c1 c2 c3 S 3 h.pr.rf xi).mono fun e w'' ⟨a, c, d⟩ => ⟨a, by rw [hS2] at c; exact h.ref d c⟩
                      have HSM : Hid (∀ w', MidE w w' b g m rb go gl gf c1 c2 c3 3 S2 S2 (some ⟨bb, o, none⟩) l wr.heap.size xi s → Calls Tryz.prog 18 #[.pointer (some ⟨b, 0, none⟩), .pointer (some ⟨rb, 0, none⟩)] w' fun e w'' => e = .returned (.bool true) ∧ PrE w w'' b g m rb go gl gf c1 c2 c3 3 S2 S2 (some ⟨bb, o, none⟩) l) :=
                        Lib.hid fun w' h => (lsame_any w' b g m rb go gl gf c1 c2 c3 S2 3 h.pr.both).mono fun e w'' ⟨a, c⟩ => ⟨a, h.pr.quiet c⟩
                      clear hx3
                      clear hS2
                      go_wp2_with fail
                      (with_reducible refine (HC1.out _ (HR.out.start _ xi s 31)).mono ?_)
                      rintro e w5 ⟨rfl, hm5⟩
                      have q1 := hm5.x1
                      have q2 := hm5.x2
                      have HM5 := Lib.hid hm5
                      clear hm5
                      go_wp2_with fail
                      (with_reducible refine (HC2.out w5 HM5.out).mono ?_)
                      rintro e w6 ⟨rfl, hm6⟩
                      have HM6 := Lib.hid hm6
                      clear hm6 q1 q2
                      go_wp2_with fail
                      (with_reducible refine (HSM.out w6 HM6.out).mono ?_)
                      rintro e w7 ⟨rfl, hm7⟩
                      have HM7 := Lib.hid hm7
                      clear hm7
                      go_wp2_with fail
                      go_roundw
                      case rel => exact ⟨i + 1, _, congrArg _ (by omega), by omega, by omega, HM7⟩
                      case measure => simp [intOf]; omega
      · have hl1 : (i : Int) < (n0 : Int) := by omega
        have hl2 : ¬ (i : Int) < 40 := by omega
        go_wp2_with fail
        (with_reducible refine HAW.out.mono ?_)
        rintro e w3 ⟨rfl, hb3⟩
        go_wp2_with fail
        go_ret
        exact ⟨rfl, hb3⟩
    · have hl1 : ¬ (i : Int) < (n0 : Int) := by omega
      go_wp2_with fail
      (with_reducible refine HAW.out.mono ?_)
      rintro e w3 ⟨rfl, hb3⟩
      go_wp2_with fail
      go_ret
      exact ⟨rfl, hb3⟩
end Go.Proofs.YthjjdjhmaffoeaaGreatDoor
