/-
  The walk of epoch.Next.
-/
import Derived.Test.YthjjdjhmaffoeaaGreatDoorEpA
import Derived.Test.YthjjdjhmaffoeaaGreatDoorDkH
import Derived.Defers
import Derived.RegionTactic
import Derived.Deep.RegionHeld3
namespace Go.Proofs.YthjjdjhmaffoeaaGreatDoor
open Go.RowKit

theorem DiskAt.sameE {w w' : World} {b g m n : Nat} {S : St} (h : DiskAt w b g m S n) (hk : ∀ k, k = b ∨ k = g ∨ k = m → w'.heap[k]? = w.heap[k]?) : DiskAt w' b g m S n := by
  obtain ⟨cur, c, D, hB, hG, hcur, hc, hM, hrest⟩ := h
  obtain ⟨es, clock, hm, hr⟩ := hM
  exact ⟨cur, c, D, (hk b (by simp)).trans hB, (hk g (by simp)).trans hG, hcur, hc, ⟨es, clock, (hk m (by simp)).trans hm, hr⟩, hrest⟩
/-- Memory while the next number is made: the two results' cells. -/
structure NxW (w wr : World) (b g m n : Nat) (S : St) (nv ev : Int) : Prop where
  dk : DiskAt wr b g m S n
  cn : wr.cell? ⟨w.heap.size, 0, none⟩ = some (.int .i64 nv)
  fn : wr.frozen? ⟨w.heap.size, 0, none⟩ = false
  ce : wr.cell? ⟨w.heap.size + 1, 0, none⟩ = some (.int .i64 ev)
  fe : wr.frozen? ⟨w.heap.size + 1, 0, none⟩ = false
  kp : Keep3 b g m w wr
  lt : b < w.heap.size ∧ g < w.heap.size ∧ m < w.heap.size
section
variable {w wr w' : World} {b g m n : Nat} {S S' : St} {nv ev : Int}
theorem frozen_of_heap {a c : World} {p : Addr} (h : c.heap[p.block]? = a.heap[p.block]?) : c.frozen? p = a.frozen? p := by
  unfold World.frozen?
  rw [h]
theorem NxW.start (h : DiskAt w b g m S n) : NxW w ((w.alloc (.cells #[.int .i64 0] 3)).alloc (.cells #[.int .i64 0] 24)) b g m n S 0 0 := by
  have hlt : b < w.heap.size ∧ g < w.heap.size ∧ m < w.heap.size := by
    obtain ⟨_, _, _, h2, h3, _, _, h4, _⟩ := h
    exact ⟨h2.lt, h3.lt, h4.lt⟩
  have hb : Below w.heap.size w ((w.alloc (.cells #[.int .i64 0] 3)).alloc (.cells #[.int .i64 0] 24)) := ((Below.refl _ w).alloc (Nat.le_refl _) _).alloc (by simp) _
  have h1 : Bk ((w.alloc (.cells #[.int .i64 0] 3)).alloc (.cells #[.int .i64 0] 24)) w.heap.size 3 #[.int .i64 0] := (Bk.new w _ _).alloc _
  have h2 : Bk ((w.alloc (.cells #[.int .i64 0] 3)).alloc (.cells #[.int .i64 0] 24)) (w.heap.size + 1) 24 #[.int .i64 0] := by
    have := Bk.new (w.alloc (.cells #[.int .i64 0] 3)) 24 #[.int .i64 0]
    rw [World.size_alloc] at this
    exact this
  exact ⟨h.below hb, h1.cell 0, h1.frozen 0, h2.cell 0, h2.frozen 0, Keep3.of_below hb, hlt⟩
theorem NxW.below (h : NxW w wr b g m n S nv ev) (hb : Below wr.heap.size wr w') : NxW w w' b g m n S nv ev := by
  have l1 := World.block_lt_of_cell? wr _ h.cn
  have l2 := World.block_lt_of_cell? wr _ h.ce
  exact ⟨h.dk.below hb, (hb.cell l1).trans h.cn, (hb.frozen l1).trans h.fn, (hb.cell l2).trans h.ce, (hb.frozen l2).trans h.fe, h.kp.trans (Keep3.of_below hb), h.lt⟩
theorem NxW.deed (h : NxW w wr b g m n S nv ev) (hk : Keep3 b g m wr w') (hD : DiskAt w' b g m S' n) : NxW w w' b g m n S' nv ev := by
  have l1 := World.block_lt_of_cell? wr _ h.cn
  have l2 := World.block_lt_of_cell? wr _ h.ce
  obtain ⟨t1, t2, t3⟩ := h.lt
  have e1 := hk.2.2.2.2 w.heap.size l1 (by omega) (by omega) (by omega)
  have e2 := hk.2.2.2.2 (w.heap.size + 1) l2 (by omega) (by omega) (by omega)
  refine ⟨hD, ?_, ?_, ?_, ?_, h.kp.trans hk, h.lt⟩
  · have := h.cn; simp only [World.cell?] at this ⊢; rw [e1]; exact this
  · have := h.fn; rw [frozen_of_heap (a := wr) e1]; exact this
  · have := h.ce; simp only [World.cell?] at this ⊢; rw [e2]; exact this
  · have := h.fe; rw [frozen_of_heap (a := wr) e2]; exact this
theorem NxW.setN (h : NxW w wr b g m n S nv ev) (v : Int) : NxW w (wr.setCell ⟨w.heap.size, 0, none⟩ (.int .i64 v)) b g m n S v ev := by
  obtain ⟨t1, t2, t3⟩ := h.lt
  have hs : ∀ q, q ≠ w.heap.size → (wr.setCell ⟨w.heap.size, 0, none⟩ (.int .i64 v)).heap[q]? = wr.heap[q]? := fun q hq => Below.heap_setCell wr _ _ q hq
  refine ⟨h.dk.sameE fun k hk => hs k (by omega), by simp [go_sem, h.cn], by rw [World.frozen?_setCell]; exact h.fn, ?_, by rw [World.frozen?_setCell]; exact h.fe, h.kp.only_new (Nat.le_refl _) (only_set wr w.heap.size 0 _), h.lt⟩
  have := h.ce
  simp only [World.cell?] at this ⊢
  rw [hs (w.heap.size + 1) (by omega)]
  exact this
theorem NxW.setE (h : NxW w wr b g m n S nv ev) (v : Int) : NxW w (wr.setCell ⟨w.heap.size + 1, 0, none⟩ (.int .i64 v)) b g m n S nv v := by
  obtain ⟨t1, t2, t3⟩ := h.lt
  have hs : ∀ q, q ≠ w.heap.size + 1 → (wr.setCell ⟨w.heap.size + 1, 0, none⟩ (.int .i64 v)).heap[q]? = wr.heap[q]? := fun q hq => Below.heap_setCell wr _ _ q hq
  refine ⟨h.dk.sameE fun k hk => hs k (by omega), ?_, by rw [World.frozen?_setCell]; exact h.fn, by simp [go_sem, h.ce], by rw [World.frozen?_setCell]; exact h.fe, h.kp.only_new (by omega) (only_set wr (w.heap.size + 1) 0 _), h.lt⟩
  have := h.cn
  simp only [World.cell?] at this ⊢
  rw [hs w.heap.size (by omega)]
  exact this
theorem NxW.drew (h : NxW w wr b g m n S nv ev) : NxW w wr.drew b g m n S nv ev := ⟨h.dk.sameE fun _ _ => rfl, h.cn, h.fn, h.ce, h.fe, h.kp, h.lt⟩
end
/-- The deferred closure: no error. -/
theorem defer_ok (pe pn : Addr) (w : World) (hc : w.cell? pe = some (.int .i64 0)) :
    CallsD Tryz.prog 23 #[.pointer (some pe), .pointer (some pn)] .returning w fun e u' w' => u' = .returning ∧ (e = .returned (.tuple #[]) ∧ w' = w) := by
  go_enter_d Tryz.func23, Tryz.ntmps23
  go_wp2_with fail
  go_end0
  exact ⟨rfl, rfl⟩
theorem defer_bad (pe pn : Addr) (x y : Int) (w : World) (hc : w.cell? pe = some (.int .i64 x)) (hx : (x == 0) = false) (hn : w.cell? pn = some (.int .i64 y)) (hf : w.frozen? pn = false) :
    CallsD Tryz.prog 23 #[.pointer (some pe), .pointer (some pn)] .returning w fun e u' w' => u' = .returning ∧ (e = .returned (.tuple #[]) ∧ w' = w.setCell pn (.int .i64 0)) := by
  go_enter_d Tryz.func23, Tryz.ntmps23
  go_wp2_with fail
  go_end0
  exact ⟨rfl, rfl⟩

theorem leaves_fin {w wz : World} {b g m n : Nat} {S : St} {nv ev : Int} (X : NxW w wz b g m n S nv ev) {tm : Array Value} (h4 : tm[4]?.getD undef = .pointer (some ⟨w.heap.size, 0, none⟩)) (h5 : tm[5]?.getD undef = .pointer (some ⟨w.heap.size + 1, 0, none⟩)) {Q : Ending → World → Prop}
    (hq : Q (.returned (.tuple #[.int .i64 nv, .int .i64 ev])) wz) : Leaves Tryz.prog Tryz.f6 tm Q [] (settle .returning) wz := by
  have c0 := X.cn
  have c1 := X.ce
  simp [Leaves, settle, results, Tryz.results6, go_sem, h4, h5, c0, c1, hq]
set_option maxRecDepth 20000 in
set_option maxHeartbeats 4000000 in
theorem next_any (w : World) (b g m : Nat) (S : St) (n : Nat) (i : Int) (h : DiskAt w b g m S n) :
    Calls Tryz.prog 6 #[.pointer (some ⟨b, 0, none⟩), .int .i64 i] w fun e w' => e = .returned (.tuple #[.int .i64 (S.next i).2.1, .int .i64 (S.next i).2.2]) ∧ DiskAt w' b g m (S.next i).1 n ∧ Keep3 b g m w w' := by
  have HD := Lib.hid h
  have hmf : ∀ (fn : Fn) (first cap : Array Value) (w : World), (Instr.makeFunc fn first cap).run Tryz.prog w = .ok (.func fn first cap) w := fun _ _ _ _ => rfl
  obtain ⟨ln, hln⟩ : ∃ l, (S.last i).1 = l := ⟨_, rfl⟩
  obtain ⟨le, hle⟩ : ∃ l, (S.last i).2 = l := ⟨_, rfl⟩
  have HLA : Hid (∀ w1, DiskAt w1 b g m S n → Calls Tryz.prog 8 #[.pointer (some ⟨b, 0, none⟩), .int .i64 i] w1 fun e w' => e = .returned (.tuple #[.int .i64 ln, .int .i64 le]) ∧ Below w1.heap.size w1 w') := Lib.hid fun w1 h1 => by rw [← hln, ← hle]; exact last_any w1 b g m S n i h1
  have hrg := S.last_range i
  rw [hln] at hrg
  have H1 := Lib.hid (NxW.start h)
  clear h
  by_cases h0 : le = 0
  · subst h0
    by_cases hmost : ln = 4294967295
    · have HN := Lib.hid (show S.next i = (S, 0, 3) by unfold St.next; rw [hle, if_neg (by simp), hln, if_pos hmost])
      subst hmost
      clear hln hle hrg
      go_enter_defers Tryz.func6, Tryz.ntmps6
      go_wp2_with fail
      (with_reducible refine (HLA.out _ H1.out.dk).mono ?_)
      rintro e w1 ⟨rfl, hb1⟩
      have X1 := Lib.hid (H1.out.below hb1)
      obtain ⟨_, cn, fn, ce, fe, _, _⟩ := X1.out
      clear hb1
      go_wp2_with fail
      have X2 := Lib.hid (((((X1.out.setN 4294967295).setE 0).setN 4294967296).setN 4294967296).setE 3)
      obtain ⟨_, cnz, fnz, cez, fez, _, _⟩ := X2.out
      refine leaves_cons (f := 23) (args := #[.pointer (some ⟨w.heap.size + 1, 0, none⟩), .pointer (some ⟨w.heap.size, 0, none⟩)]) (by simp) (by simp [go_sem]) ?_
      refine (defer_bad ⟨w.heap.size + 1, 0, none⟩ ⟨w.heap.size, 0, none⟩ 3 4294967296 _ cez (by decide) cnz fnz).mono ?_
      rintro e u' w'' ⟨rfl, rfl, rfl⟩
      exact leaves_fin (X2.out.setN 0) rfl rfl (by rw [HN.out]; exact ⟨rfl, (X2.out.setN 0).dk, (X2.out.setN 0).kp⟩)
    · obtain ⟨t, ht⟩ : ∃ t, textS (ln + 1) = t := ⟨_, rfl⟩
      have hts : t.size = 8 := by rw [← ht]; exact textS_size _
      have HTX : Hid (∀ w', Calls Tryz.prog 24 #[.int .i64 (ln + 1)] w' fun e w'' => e = .returned (.string t) ∧ Below w'.heap.size w' w'') := Lib.hid fun w' => by rw [← ht]; exact text_any (ln + 1) w'
      obtain ⟨we, hwe⟩ : ∃ we, (S.wr i t).2 = we := ⟨_, rfl⟩
      obtain ⟨S1, hS1⟩ : ∃ S1, (S.wr i t).1 = S1 := ⟨_, rfl⟩
      have HWR : Hid (∀ w', DiskAt w' b g m S n → Calls Tryz.prog 12 #[.pointer (some ⟨b, 0, none⟩), .int .i64 i, .string t] w' fun e w'' => e = .returned (.int .i64 we) ∧ DiskAt w'' b g m S1 n ∧ Keep3 b g m w' w'') := Lib.hid fun w' h' => by rw [← hwe, ← hS1]; exact write_any w' b g m S n i t h' (by omega)
      have hw1 : IntKind.i64.wrap (ln + 1) = ln + 1 := by rw [IntKind.wrap_i64]; omega
      have hgt : ¬ (4294967295 : Int) < ln + 1 := by omega
      by_cases hwe0 : we = 0
      · subst hwe0
        obtain ⟨se, hse⟩ : ∃ se, S1.sync.2 = se := ⟨_, rfl⟩
        obtain ⟨S2, hS2⟩ : ∃ S2, S1.sync.1 = S2 := ⟨_, rfl⟩
        have HSY : Hid (∀ w', DiskAt w' b g m S1 n → Calls Tryz.prog 14 #[.pointer (some ⟨b, 0, none⟩)] w' fun e w'' => e = .returned (.int .i64 se) ∧ DiskAt w'' b g m S2 n ∧ Keep3 b g m w' w'') := Lib.hid fun w' h' => by rw [← hse, ← hS2]; exact sync_any w' b g m S1 n h'
        have HNX : Hid (S.next i = if se = 0 then (S2, ln + 1, 0) else (S2, 0, se)) := Lib.hid (by
          unfold St.next
          rw [hle, if_neg (by simp), hln, if_neg hmost, ht, hwe, if_neg (by simp), hS1, hse, hS2]
          by_cases h : se = 0
          · rw [if_neg (by simp [h]), if_pos h]
          · rw [if_pos h, if_neg h])
        clear hln hle hmost ht hts hwe hS1 hse hS2 hrg
        go_enter_defers Tryz.func6, Tryz.ntmps6
        go_wp2_with fail
        (with_reducible refine (HLA.out _ H1.out.dk).mono ?_)
        rintro e w1 ⟨rfl, hb1⟩
        have X1 := Lib.hid (H1.out.below hb1)
        obtain ⟨_, cn, fn, ce, fe, _, _⟩ := X1.out
        clear hb1
        go_wp2_with fail
        have X3 := Lib.hid (((X1.out.setN ln).setE 0).setN (ln + 1))
        generalize ((w1.setCell ⟨w.heap.size, 0, none⟩ (.int .i64 ln)).setCell ⟨w.heap.size + 1, 0, none⟩ (.int .i64 0)).setCell ⟨w.heap.size, 0, none⟩ (.int .i64 (ln + 1)) = w3 at *
        clear cn fn ce fe X1
        (with_reducible refine (HTX.out w3).mono ?_)
        rintro e w4 ⟨rfl, hb4⟩
        have X4 := Lib.hid (X3.out.below hb4)
        obtain ⟨_, cn, fn, ce, fe, _, _⟩ := X4.out
        clear hb4
        go_wp2_with fail
        (with_reducible refine (HWR.out w4 X4.out.dk).mono ?_)
        rintro e w5 ⟨rfl, hD5, hk5⟩
        have X5 := Lib.hid (X4.out.deed hk5 hD5)
        clear hD5 hk5 cn fn ce fe
        obtain ⟨_, cn, fn, ce, fe, _, _⟩ := X5.out
        go_wp2_with fail
        have X6 := Lib.hid (X5.out.setE 0)
        generalize w5.setCell ⟨w.heap.size + 1, 0, none⟩ (.int .i64 0) = w6 at *
        clear cn fn ce fe X5
        have cn : w6.drew.cell? ⟨w.heap.size, 0, none⟩ = some (.int .i64 (ln + 1)) := X6.out.cn
        go_region_held3 (fun w' => w'.cell? ⟨w.heap.size, 0, none⟩ = some (.int .i64 (ln + 1))) (first | exact cn | exact X7.out.cn | exact X8.out.cn | exact X9.out.cn) (first
          | (go_at_call 14; refine (HSY.out _ X6.out.drew.dk).mono ?_; rintro e w7 ⟨rfl, hD7, hk7⟩; have X7 := Lib.hid (X6.out.drew.deed hk7 hD7); obtain ⟨_, cn7, fn7, ce7, fe7, _, _⟩ := X7.out; have X8 := Lib.hid (X7.out.setN (ln + 1)); have X9 := Lib.hid (X8.out.setE se); obtain ⟨_, cn8, fn8, ce8, fe8, _, _⟩ := X8.out))
        all_goals
          clear cn cn7 fn7 ce7 fe7 cn8 fn8 ce8 fe8
          go_wp2_with fail
        all_goals
          by_cases hse0 : se = 0
          · subst hse0
            have HN := Lib.hid (show S.next i = (S2, ln + 1, 0) by rw [HNX.out, if_pos rfl])
            obtain ⟨_, cnz, fnz, cez, fez, _, _⟩ := X9.out
            refine leaves_cons (f := 23) (args := #[.pointer (some ⟨w.heap.size + 1, 0, none⟩), .pointer (some ⟨w.heap.size, 0, none⟩)]) (by simp) (by simp [go_sem]) ?_
            refine (defer_ok ⟨w.heap.size + 1, 0, none⟩ ⟨w.heap.size, 0, none⟩ _ cez).mono ?_
            rintro e u' w'' ⟨rfl, rfl, rfl⟩
            exact leaves_fin X9.out rfl rfl (by rw [HN.out]; exact ⟨rfl, X9.out.dk, X9.out.kp⟩)
          · have HN := Lib.hid (show S.next i = (S2, 0, se) by rw [HNX.out, if_neg hse0])
            have hse1 : (se == 0) = false := by simp [hse0]
            obtain ⟨_, cnz, fnz, cez, fez, _, _⟩ := X9.out
            refine leaves_cons (f := 23) (args := #[.pointer (some ⟨w.heap.size + 1, 0, none⟩), .pointer (some ⟨w.heap.size, 0, none⟩)]) (by simp) (by simp [go_sem]) ?_
            refine (defer_bad ⟨w.heap.size + 1, 0, none⟩ ⟨w.heap.size, 0, none⟩ se (ln + 1) _ cez hse1 cnz fnz).mono ?_
            rintro e u' w'' ⟨rfl, rfl, rfl⟩
            exact leaves_fin (X9.out.setN 0) rfl rfl (by rw [HN.out]; exact ⟨rfl, (X9.out.setN 0).dk, (X9.out.setN 0).kp⟩)
      · have HN := Lib.hid (show S.next i = (S1, 0, we) by unfold St.next; rw [hle, if_neg (by simp), hln, if_neg hmost, ht, hwe, if_pos hwe0, hS1])
        have hwe1 : (we == 0) = false := by simp [hwe0]
        clear hln hle hmost ht hts hwe hS1 hwe0 hrg
        go_enter_defers Tryz.func6, Tryz.ntmps6
        go_wp2_with fail
        (with_reducible refine (HLA.out _ H1.out.dk).mono ?_)
        rintro e w1 ⟨rfl, hb1⟩
        have X1 := Lib.hid (H1.out.below hb1)
        obtain ⟨_, cn, fn, ce, fe, _, _⟩ := X1.out
        clear hb1
        go_wp2_with fail
        have X3 := Lib.hid (((X1.out.setN ln).setE 0).setN (ln + 1))
        generalize ((w1.setCell ⟨w.heap.size, 0, none⟩ (.int .i64 ln)).setCell ⟨w.heap.size + 1, 0, none⟩ (.int .i64 0)).setCell ⟨w.heap.size, 0, none⟩ (.int .i64 (ln + 1)) = w3 at *
        clear cn fn ce fe X1
        (with_reducible refine (HTX.out w3).mono ?_)
        rintro e w4 ⟨rfl, hb4⟩
        have X4 := Lib.hid (X3.out.below hb4)
        obtain ⟨_, cn, fn, ce, fe, _, _⟩ := X4.out
        clear hb4
        go_wp2_with fail
        (with_reducible refine (HWR.out w4 X4.out.dk).mono ?_)
        rintro e w5 ⟨rfl, hD5, hk5⟩
        have X5 := Lib.hid (X4.out.deed hk5 hD5)
        clear hD5 hk5 cn fn ce fe
        obtain ⟨_, cn, fn, ce, fe, _, _⟩ := X5.out
        go_wp2_with fail
        go_region
        all_goals
          go_wp2_with fail
          have X6 := Lib.hid (((X5.out.setE we).setN (ln + 1)).setE we).drew
          obtain ⟨_, cnz, fnz, cez, fez, _, _⟩ := X6.out
          refine leaves_cons (f := 23) (args := #[.pointer (some ⟨w.heap.size + 1, 0, none⟩), .pointer (some ⟨w.heap.size, 0, none⟩)]) (by simp) (by simp [go_sem]) ?_
          refine (defer_bad ⟨w.heap.size + 1, 0, none⟩ ⟨w.heap.size, 0, none⟩ we (ln + 1) _ cez hwe1 cnz fnz).mono ?_
          rintro e u' w'' ⟨rfl, rfl, rfl⟩
          exact leaves_fin (X6.out.setN 0) rfl rfl (by rw [HN.out]; exact ⟨rfl, (X6.out.setN 0).dk, (X6.out.setN 0).kp⟩)
  · have HN := Lib.hid (show S.next i = (S, 0, le) by unfold St.next; rw [hle, if_pos h0])
    have hle1 : (le == 0) = false := by simp [h0]
    clear hln hle h0
    go_enter_defers Tryz.func6, Tryz.ntmps6
    go_wp2_with fail
    (with_reducible refine (HLA.out _ H1.out.dk).mono ?_)
    rintro e w1 ⟨rfl, hb1⟩
    have X1 := Lib.hid (H1.out.below hb1)
    obtain ⟨_, cn, fn, ce, fe, _, _⟩ := X1.out
    clear hb1
    go_wp2_with fail
    go_region
    all_goals
      go_wp2_with fail
      have X2 := Lib.hid ((((X1.out.setN ln).setE le).setN ln).setE le).drew
      obtain ⟨_, cn2, fn2, ce2, fe2, _, _⟩ := X2.out
      refine leaves_cons (f := 23) (args := #[.pointer (some ⟨w.heap.size + 1, 0, none⟩), .pointer (some ⟨w.heap.size, 0, none⟩)]) (by simp) (by simp [go_sem]) ?_
      refine (defer_bad ⟨w.heap.size + 1, 0, none⟩ ⟨w.heap.size, 0, none⟩ le ln _ ce2 hle1 cn2 fn2).mono ?_
      rintro e u' w'' ⟨rfl, rfl, rfl⟩
      exact leaves_fin (X2.out.setN 0) rfl rfl (by rw [HN.out]; exact ⟨rfl, (X2.out.setN 0).dk, (X2.out.setN 0).kp⟩)
end Go.Proofs.YthjjdjhmaffoeaaGreatDoor
