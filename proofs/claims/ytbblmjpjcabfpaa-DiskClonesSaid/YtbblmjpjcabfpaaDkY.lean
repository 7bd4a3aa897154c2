/-
  The law's 'does': a deed in both disks.
-/
import Derived.Test.YtbblmjpjcabfpaaDkX
import Derived.Test.YtbblmjpjcabfpaaDdA
namespace Go.Proofs.Ytbblmjpjcabfpaa
open Go.RowKit Go.Maps

/-- All old blocks but those of F are as they were. -/
def KeepL (F : List Nat) (w w' : World) : Prop := w'.os = w.os ∧ w'.tape = w.tape ∧ w'.output = w.output ∧ w.heap.size ≤ w'.heap.size ∧ ∀ k, k < w.heap.size → k ∉ F → w'.heap[k]? = w.heap[k]?
theorem KeepL.refl (F : List Nat) (w : World) : KeepL F w w := ⟨rfl, rfl, rfl, Nat.le_refl _, fun _ _ _ => rfl⟩
theorem KeepL.trans {F : List Nat} {w w' w'' : World} (h : KeepL F w w') (h2 : KeepL F w' w'') : KeepL F w w'' :=
  ⟨h2.1.trans h.1, h2.2.1.trans h.2.1, h2.2.2.1.trans h.2.2.1, Nat.le_trans h.2.2.2.1 h2.2.2.2.1, fun k hk a => (h2.2.2.2.2 k (Nat.lt_of_lt_of_le hk h.2.2.2.1) a).trans (h.2.2.2.2 k hk a)⟩
theorem KeepL.of_below {F : List Nat} {w w' : World} (h : Below w.heap.size w w') : KeepL F w w' := ⟨h.os, h.tape, h.output, h.size, fun k hk _ => h.block k hk⟩
theorem KeepL.of3 {b g m : Nat} {F : List Nat} {w w' : World} (h : Keep3 b g m w w') (hF : b ∈ F ∧ g ∈ F ∧ m ∈ F) : KeepL F w w' :=
  ⟨h.1, h.2.1, h.2.2.1, h.2.2.2.1, fun k hk hn => h.2.2.2.2 k hk (fun e => hn (e ▸ hF.1)) (fun e => hn (e ▸ hF.2.1)) (fun e => hn (e ▸ hF.2.2))⟩
theorem KeepL.of4 {b go gl gf : Nat} {F : List Nat} {w w' : World} (h : Keep4 b go gl gf w w') (hF : b ∈ F ∧ go ∈ F ∧ gl ∈ F ∧ gf ∈ F) : KeepL F w w' :=
  ⟨h.1, h.2.1, h.2.2.1, h.2.2.2.1, fun k hk hn => h.2.2.2.2 k hk (fun e => hn (e ▸ hF.1)) (fun e => hn (e ▸ hF.2.1)) (fun e => hn (e ▸ hF.2.2.1)) (fun e => hn (e ▸ hF.2.2.2))⟩
theorem KeepL.below {F : List Nat} {B : Nat} {w w' : World} (h : KeepL F w w') (hB : B ≤ w.heap.size) (hF : ∀ k ∈ F, B ≤ k) : Below B w w' :=
  ⟨h.1, h.2.1, h.2.2.1, h.2.2.2.1, fun k hk => h.2.2.2.2 k (by omega) (fun hm => by have := hF k hm; omega)⟩
theorem KeepL.cell {F : List Nat} {w w' : World} (h : KeepL F w w') {p : Addr} {v : Value} (hv : w.cell? p = some v) (hn : p.block ∉ F) : w'.cell? p = some v := by
  have hlt := World.block_lt_of_cell? w _ hv
  have h5 := h.2.2.2.2 p.block hlt hn
  simp only [World.cell?] at hv ⊢
  rw [h5]
  exact hv
theorem DiskAt.same {w w' : World} {b g m n : Nat} {S : St} (h : DiskAt w b g m S n) (hk : ∀ k, k = b ∨ k = g ∨ k = m → w'.heap[k]? = w.heap[k]?) : DiskAt w' b g m S n := by
  obtain ⟨cur, c, D, hB, hG, hcur, hc, hM, hrest⟩ := h
  obtain ⟨es, clock, hm, hr⟩ := hM
  exact ⟨cur, c, D, (hk b (by simp)).trans hB, (hk g (by simp)).trans hG, hcur, hc, ⟨es, clock, (hk m (by simp)).trans hm, hr⟩, hrest⟩
theorem DiskAt.lts {w : World} {b g m n : Nat} {S : St} (h : DiskAt w b g m S n) : b < w.heap.size ∧ g < w.heap.size ∧ m < w.heap.size := by
  obtain ⟨_, _, _, h2, h3, _, _, h4, _⟩ := h
  exact ⟨h2.lt, h3.lt, h4.lt⟩
/-- The two disks' blocks are others. -/
def Sep (b g m rb go gl gf : Nat) : Prop := (b ≠ rb ∧ b ≠ go ∧ b ≠ gl ∧ b ≠ gf) ∧ (g ≠ rb ∧ g ≠ go ∧ g ≠ gl ∧ g ≠ gf) ∧ (m ≠ rb ∧ m ≠ go ∧ m ≠ gl ∧ m ≠ gf)
theorem RefAt.keep3 {w w' : World} {b g m rb go gl gf c1 c2 c3 n : Nat} {S : St} (h : RefAt w rb go gl gf c1 c2 c3 S n) (hs : Sep b g m rb go gl gf) (hk : Keep3 b g m w w') : RefAt w' rb go gl gf c1 c2 c3 S n := by
  obtain ⟨⟨a1, a2, a3, a4⟩, ⟨b1, b2, b3, b4⟩, ⟨d1, d2, d3, d4⟩⟩ := hs
  refine h.same fun k hkk => hk.2.2.2.2 k (h.lt k hkk) ?_ ?_ ?_ <;> rcases hkk with rfl | rfl | rfl | rfl <;> (intro e; omega)
theorem DiskAt.keep4 {w w' : World} {b g m rb go gl gf n : Nat} {S : St} (h : DiskAt w b g m S n) (hs : Sep b g m rb go gl gf) (hk : Keep4 rb go gl gf w w') : DiskAt w' b g m S n := by
  obtain ⟨⟨a1, a2, a3, a4⟩, ⟨b1, b2, b3, b4⟩, ⟨d1, d2, d3, d4⟩⟩ := hs
  obtain ⟨l1, l2, l3⟩ := h.lts
  refine h.same fun k hkk => hk.2.2.2.2 k (by rcases hkk with rfl | rfl | rfl <;> assumption) ?_ ?_ ?_ ?_ <;> rcases hkk with rfl | rfl | rfl <;> (intro e; omega)
/-- Both disks stand for one state. -/
structure Both (w : World) (b g m rb go gl gf c1 c2 c3 : Nat) (S : St) (n : Nat) : Prop where
  dk : DiskAt w b g m S n
  rf : RefAt w rb go gl gf c1 c2 c3 S n
  sp : Sep b g m rb go gl gf
section
variable {w w' : World} {b g m rb go gl gf c1 c2 c3 n : Nat} {S S' : St}
theorem Both.quiet (h : Both w b g m rb go gl gf c1 c2 c3 S n) (hb : Below w.heap.size w w') : Both w' b g m rb go gl gf c1 c2 c3 S n := ⟨h.dk.below hb, h.rf.below hb, h.sp⟩
theorem Both.lt (h : Both w b g m rb go gl gf c1 c2 c3 S n) : ∀ k ∈ [b, g, m, rb, go, gl, gf], k < w.heap.size := fun k hk => by
  obtain ⟨l1, l2, l3⟩ := h.dk.lts
  simp at hk
  rcases hk with rfl | rfl | rfl | hk
  · exact l1
  · exact l2
  · exact l3
  · exact h.rf.lt k hk
/-- Other blocks have turned. -/
theorem Both.keepL {F : List Nat} (h : Both w b g m rb go gl gf c1 c2 c3 S n) (hk : KeepL F w w') (hF : ∀ k ∈ [b, g, m, rb, go, gl, gf], k ∉ F) : Both w' b g m rb go gl gf c1 c2 c3 S n := by
  refine ⟨h.dk.same fun k hkk => hk.2.2.2.2 k (h.lt k (by simp; omega)) (hF k (by simp; omega)), h.rf.same fun k hkk => hk.2.2.2.2 k (h.lt k (by simp; omega)) (hF k (by simp; omega)), h.sp⟩
end
/-- What a deed in both ends in. -/
def Done (w : World) (b g m rb go gl gf c1 c2 c3 n : Nat) (e : Ending) (w' : World) : Prop := e = .returned (.bool true) ∧ ∃ S', Both w' b g m rb go gl gf c1 c2 c3 S' n ∧ KeepL [b, g, m, rb, go, gl, gf] w w'

set_option maxRecDepth 100000 in
set_option maxHeartbeats 8000000 in
theorem does_any (w : World) (b g m rb go gl gf c1 c2 c3 : Nat) (S : St) (n : Nat) (h : Both w b g m rb go gl gf c1 c2 c3 S n) (x : Dd) (hx : x.ok) :
    Calls Try.prog 19 #[.pointer (some ⟨b, 0, none⟩), .pointer (some ⟨rb, 0, none⟩), .agg #[.int .i64 x.k, .int .i64 x.i, .string x.s]] w (Done w b g m rb go gl gf c1 c2 c3 n) := by
  obtain ⟨xk, xi, xs⟩ := x
  obtain ⟨_, ⟨hi1, hi2⟩, hsz⟩ := hx
  simp only at hi1 hi2 hsz
  have HI := Lib.hid (And.intro hi2 hsz)
  have H0 := Lib.hid (h.quiet ((Below.refl _ w).alloc (Nat.le_refl _) (.cells #[.int .i64 xk, .int .i64 xi, .string xs] 32)))
  have HXB : Hid (w.heap.size ∉ [b, g, m, rb, go, gl, gf]) := Lib.hid fun hm => by have := h.lt _ hm; omega
  have K0 : Hid (KeepL [b, g, m, rb, go, gl, gf] w (w.alloc (.cells #[.int .i64 xk, .int .i64 xi, .string xs] 32))) := Lib.hid (KeepL.of_below ((Below.refl _ w).alloc (Nat.le_refl _) _))
  have q0 : (w.alloc (.cells #[.int .i64 xk, .int .i64 xi, .string xs] 32)).cell? ⟨w.heap.size, 0, none⟩ = some (.int .i64 xk) := by rw [World.cell?_alloc_mark]; rfl
  have q1 : (w.alloc (.cells #[.int .i64 xk, .int .i64 xi, .string xs] 32)).cell? ⟨w.heap.size, 1, none⟩ = some (.int .i64 xi) := by rw [World.cell?_alloc_mark]; rfl
  have q2 : (w.alloc (.cells #[.int .i64 xk, .int .i64 xi, .string xs] 32)).cell? ⟨w.heap.size, 2, none⟩ = some (.string xs) := by rw [World.cell?_alloc_mark]; rfl
  clear h hi1 hi2 hsz
  have HW : Hid (∀ w1, Both w1 b g m rb go gl gf c1 c2 c3 S n → Calls Try.prog 11 #[.pointer (some ⟨b, 0, none⟩), .int .i64 xi, .string xs] w1 fun e w' => e = .returned (.int .i64 (S.wr xi xs).2) ∧ DiskAt w' b g m (S.wr xi xs).1 n ∧ RefAt w' rb go gl gf c1 c2 c3 S n ∧ KeepL [b, g, m, rb, go, gl, gf] w1 w') :=
    Lib.hid fun w1 h1 => (write_any w1 b g m S n xi xs h1.dk HI.out.2).mono fun e w' ⟨a, c, d⟩ => ⟨a, c, h1.rf.keep3 h1.sp d, KeepL.of3 d (by simp)⟩
  have HSP := Lib.hid H0.out.sp
  have HRW : Hid (∀ w1, DiskAt w1 b g m (S.wr xi xs).1 n → RefAt w1 rb go gl gf c1 c2 c3 S n → Calls Try.prog 31 #[.pointer (some ⟨rb, 0, none⟩), .int .i64 xi, .string xs] w1 fun e w' => e = .returned (.int .i64 (S.wr xi xs).2) ∧ Both w' b g m rb go gl gf c1 c2 c3 (S.wr xi xs).1 n ∧ KeepL [b, g, m, rb, go, gl, gf] w1 w') :=
    Lib.hid fun w1 h1 h2 => (rwrite_any w1 rb go gl gf c1 c2 c3 S n h2 xi xs).mono fun e w' ⟨a, c, d⟩ => ⟨a, ⟨h1.keep4 HSP.out d, c, HSP.out⟩, KeepL.of4 d (by simp)⟩
  obtain ⟨r, hr⟩ : ∃ r, (S.wr xi xs).2 = r := ⟨_, rfl⟩
  rw [hr] at HW HRW
  clear hr
  generalize hw0 : w.alloc (.cells #[.int .i64 xk, .int .i64 xi, .string xs] 32) = w0 at *
  have q1d : w0.drew.cell? ⟨w.heap.size, 1, none⟩ = some (.int .i64 xi) := q1
  have q2d : w0.drew.cell? ⟨w.heap.size, 2, none⟩ = some (.string xs) := q2
  have BD : Hid (Both w0.drew b g m rb go gl gf c1 c2 c3 S n) := Lib.hid ⟨H0.out.dk.same fun _ _ => rfl, H0.out.rf.same fun _ _ => rfl, H0.out.sp⟩
  by_cases h012 : xk = 0 ∨ xk = 1 ∨ xk = 2
  · rcases h012 with rfl | rfl | rfl
    all_goals
      go_enter Try.func19, Try.ntmps19
      go_upto_region 7 with (fail)
      go_region_held3 (fun w' => w'.cell? ⟨w.heap.size, 1, none⟩ = some (.int .i64 xi) ∧ w'.cell? ⟨w.heap.size, 2, none⟩ = some (.string xs)) (first | exact ⟨q1d, q2d⟩ | exact ⟨y1, y2⟩ | exact ⟨z1, z2⟩) (first
        | (go_at_call 11; refine (HW.out _ BD.out).mono ?_; rintro e w3 ⟨rfl, hD3, hR3, hK3⟩; have y1 := hK3.cell q1d HXB.out; have y2 := hK3.cell q2d HXB.out; have HD3 := Lib.hid hD3; have HR3 := Lib.hid hR3; have HK3 := Lib.hid hK3)
        | (go_at_call 31; refine (HRW.out _ HD3.out HR3.out).mono ?_; rintro e w4 ⟨rfl, hB4, hK4⟩; have z1 := hK4.cell y1 HXB.out; have z2 := hK4.cell y2 HXB.out; have HB4 := Lib.hid hB4; have HK4 := Lib.hid hK4))
      go_wp2_with fail
      go_ret
      exact ⟨rfl, _, HB4.out, K0.out.trans (KeepL.trans (w' := w3) HK3.out HK4.out)⟩
  · have h0 : (xk == 0) = false := by simp; omega
    have h1 : (xk == 1) = false := by simp; omega
    have h2 : (xk == 2) = false := by simp; omega
    clear q1d q2d BD HW HRW
    by_cases h3 : xk = 3
    · subst h3
      have HRD : Hid (∀ w1, Both w1 b g m rb go gl gf c1 c2 c3 S n → Calls Try.prog 10 #[.pointer (some ⟨b, 0, none⟩), .int .i64 xi] w1 fun e w' => e = .returned (.tuple #[.string (S.rd xi).1, .int .i64 (S.rd xi).2]) ∧ Below w1.heap.size w1 w') := Lib.hid fun w1 h1 => read_any w1 b g m S n xi h1.dk
      have HRR : Hid (∀ w1, Both w1 b g m rb go gl gf c1 c2 c3 S n → Calls Try.prog 32 #[.pointer (some ⟨rb, 0, none⟩), .int .i64 xi] w1 fun e w' => e = .returned (.tuple #[.string (S.rd xi).1, .int .i64 (S.rd xi).2]) ∧ Below w1.heap.size w1 w') := Lib.hid fun w1 h1 => rread_any w1 rb go gl gf c1 c2 c3 S n h1.rf xi
      obtain ⟨rs, hrs⟩ : ∃ rs, (S.rd xi).1 = rs := ⟨_, rfl⟩
      obtain ⟨re, hre⟩ : ∃ re, (S.rd xi).2 = re := ⟨_, rfl⟩
      rw [hrs, hre] at HRD HRR
      clear hrs hre h012 h0 h1 h2
      go_enter Try.func19, Try.ntmps19
      go_wp2_with fail
      (with_reducible refine (HRD.out w0 H0.out).mono ?_)
      rintro e w1 ⟨rfl, hb1⟩
      have r1 := (hb1.cell (World.block_lt_of_cell? w0 _ q1)).trans q1
      have H1 := Lib.hid (H0.out.quiet hb1)
      have HB1 := Lib.hid hb1
      clear hb1 q0 q1 q2
      go_wp2_with fail
      (with_reducible refine (HRR.out w1 H1.out).mono ?_)
      rintro e w2 ⟨rfl, hb2⟩
      have HB2 := Lib.hid hb2
      clear hb2 r1
      go_wp2_with fail
      go_ret
      exact ⟨by simp, S, H1.out.quiet HB2.out, K0.out.trans ((KeepL.of_below HB1.out).trans (KeepL.of_below HB2.out))⟩
    · have h3' : (xk == 3) = false := by simp [h3]
      by_cases h4 : xk = 4
      · subst h4
        have HRD : Hid (∀ w1, Both w1 b g m rb go gl gf c1 c2 c3 S n → Calls Try.prog 12 #[.pointer (some ⟨b, 0, none⟩)] w1 fun e w' => e = .returned (.int .i64 S.sync.2) ∧ DiskAt w' b g m S.sync.1 n ∧ RefAt w' rb go gl gf c1 c2 c3 S n ∧ KeepL [b, g, m, rb, go, gl, gf] w1 w') :=
          Lib.hid fun w1 h1 => (sync_any w1 b g m S n h1.dk).mono fun e w' ⟨a, c, d⟩ => ⟨a, c, h1.rf.keep3 h1.sp d, KeepL.of3 d (by simp)⟩
        have HRR : Hid (∀ w1, DiskAt w1 b g m S.sync.1 n → RefAt w1 rb go gl gf c1 c2 c3 S n → Calls Try.prog 33 #[.pointer (some ⟨rb, 0, none⟩)] w1 fun e w' => e = .returned (.int .i64 S.sync.2) ∧ Both w' b g m rb go gl gf c1 c2 c3 S.sync.1 n ∧ KeepL [b, g, m, rb, go, gl, gf] w1 w') :=
          Lib.hid fun w1 h1 h2 => (rsync_any w1 rb go gl gf c1 c2 c3 S n h2).mono fun e w' ⟨a, c, d⟩ => ⟨a, ⟨h1.keep4 HSP.out d, c, HSP.out⟩, KeepL.of4 d (by simp)⟩
        obtain ⟨re, hre⟩ : ∃ re, S.sync.2 = re := ⟨_, rfl⟩
        rw [hre] at HRD HRR
        clear hre h012 h0 h1 h2 h3 h3'
        go_enter Try.func19, Try.ntmps19
        go_wp2_with fail
        (with_reducible refine (HRD.out w0 H0.out).mono ?_)
        rintro e w1 ⟨rfl, hD1, hR1, hK1⟩
        have HD1 := Lib.hid hD1
        have HR1 := Lib.hid hR1
        have HK1 := Lib.hid hK1
        clear hD1 hR1 hK1 q0 q1 q2
        go_wp2_with fail
        (with_reducible refine (HRR.out w1 HD1.out HR1.out).mono ?_)
        rintro e w2 ⟨rfl, hB2, hK2⟩
        have HB2 := Lib.hid hB2
        have HK2 := Lib.hid hK2
        clear hB2 hK2
        go_wp2_with fail
        go_ret
        exact ⟨by simp, _, HB2.out, K0.out.trans (HK1.out.trans HK2.out)⟩
      · have h4' : (xk == 4) = false := by simp [h4]
        by_cases h5 : xk = 5
        · subst h5
          have HRD : Hid (∀ w1, Both w1 b g m rb go gl gf c1 c2 c3 S n → Calls Try.prog 17 #[.pointer (some ⟨b, 0, none⟩), .int .i64 xi] w1 fun e w' => e = .returned (.tuple #[]) ∧ DiskAt w' b g m (S.setFuse xi) n ∧ RefAt w' rb go gl gf c1 c2 c3 S n ∧ KeepL [b, g, m, rb, go, gl, gf] w1 w') :=
            Lib.hid fun w1 h1 => (fuse_any w1 b g m S n h1.dk xi HI.out.1).mono fun e w' ⟨a, c, d⟩ => ⟨a, c, h1.rf.keep3 h1.sp d, KeepL.of3 d (by simp)⟩
          have HRR : Hid (∀ w1, DiskAt w1 b g m (S.setFuse xi) n → RefAt w1 rb go gl gf c1 c2 c3 S n → Calls Try.prog 34 #[.pointer (some ⟨rb, 0, none⟩), .int .i64 xi] w1 fun e w' => e = .returned (.tuple #[]) ∧ Both w' b g m rb go gl gf c1 c2 c3 (S.setFuse xi) n ∧ KeepL [b, g, m, rb, go, gl, gf] w1 w') :=
            Lib.hid fun w1 h1 h2 => (rfuse_any w1 rb go gl gf c1 c2 c3 S n h2 xi HI.out.1).mono fun e w' ⟨a, c, d⟩ => ⟨a, ⟨h1.keep4 HSP.out d, c, HSP.out⟩, KeepL.of4 d (by simp)⟩
          clear h012 h0 h1 h2 h3 h3' h4 h4'
          go_enter Try.func19, Try.ntmps19
          go_wp2_with fail
          (with_reducible refine (HRD.out w0 H0.out).mono ?_)
          rintro e w1 ⟨rfl, hD1, hR1, hK1⟩
          have r1 := hK1.cell q1 HXB.out
          have HD1 := Lib.hid hD1
          have HR1 := Lib.hid hR1
          have HK1 := Lib.hid hK1
          clear hD1 hR1 hK1 q0 q1 q2
          go_wp2_with fail
          (with_reducible refine (HRR.out w1 HD1.out HR1.out).mono ?_)
          rintro e w2 ⟨rfl, hB2, hK2⟩
          have HB2 := Lib.hid hB2
          have HK2 := Lib.hid hK2
          clear hB2 hK2 r1
          go_wp2_with fail
          go_ret
          exact ⟨rfl, _, HB2.out, K0.out.trans (HK1.out.trans HK2.out)⟩
        · have h5' : (xk == 5) = false := by simp [h5]
          have HRD : Hid (∀ w1, Both w1 b g m rb go gl gf c1 c2 c3 S n → Calls Try.prog 14 #[.pointer (some ⟨b, 0, none⟩), .int .i64 xi] w1 fun e w' => e = .returned (.tuple #[]) ∧ DiskAt w' b g m (S.crash (bitOf xi)) n ∧ RefAt w' rb go gl gf c1 c2 c3 S n ∧ KeepL [b, g, m, rb, go, gl, gf] w1 w') :=
            Lib.hid fun w1 h1 => (crash_any w1 b g m S n xi h1.dk).mono fun e w' ⟨a, c, d⟩ => ⟨a, c, h1.rf.keep3 h1.sp d, KeepL.of3 d (by simp)⟩
          have HRR : Hid (∀ w1, DiskAt w1 b g m (S.crash (bitOf xi)) n → RefAt w1 rb go gl gf c1 c2 c3 S n → Calls Try.prog 35 #[.pointer (some ⟨rb, 0, none⟩), .int .i64 xi] w1 fun e w' => e = .returned (.tuple #[]) ∧ Both w' b g m rb go gl gf c1 c2 c3 (S.crash (bitOf xi)) n ∧ KeepL [b, g, m, rb, go, gl, gf] w1 w') :=
            Lib.hid fun w1 h1 h2 => (rcrash_any w1 rb go gl gf c1 c2 c3 S n h2 xi).mono fun e w' ⟨a, c, d⟩ => ⟨a, ⟨h1.keep4 HSP.out d, c, HSP.out⟩, KeepL.of4 d (by simp)⟩
          clear h012 h3 h4 h5
          go_enter Try.func19, Try.ntmps19
          go_wp2_with fail
          (with_reducible refine (HRD.out w0 H0.out).mono ?_)
          rintro e w1 ⟨rfl, hD1, hR1, hK1⟩
          have r1 := hK1.cell q1 HXB.out
          have HD1 := Lib.hid hD1
          have HR1 := Lib.hid hR1
          have HK1 := Lib.hid hK1
          clear hD1 hR1 hK1 q0 q1 q2
          go_wp2_with fail
          (with_reducible refine (HRR.out w1 HD1.out HR1.out).mono ?_)
          rintro e w2 ⟨rfl, hB2, hK2⟩
          have HB2 := Lib.hid hB2
          have HK2 := Lib.hid hK2
          clear hB2 hK2 r1
          go_wp2_with fail
          go_ret
          exact ⟨rfl, _, HB2.out, K0.out.trans (HK1.out.trans HK2.out)⟩
end Go.Proofs.Ytbblmjpjcabfpaa
