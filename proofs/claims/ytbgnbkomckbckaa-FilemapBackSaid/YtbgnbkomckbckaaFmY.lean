/-
  filemap.Take. Printed by genFmY.py.
-/
import Derived.Test.YtbgnbkomckbckaaFmX
import Derived.Lib.QuietBelow
namespace Go.Proofs.Ytbgnbkomckbckaa
open Go.RowKit Go.Sort

/-- What is left to be taken gives the whole's answer. -/
def TkRel (X : Int × List Fl) (e : Int) (n : Nat) (s : ByteArray) (l : List Fl) : Prop := (e ≠ 0 → X = (e, [])) ∧ (e = 0 → X = fin (tkF n s.toList l))
def LenS (l : List Fl) (L : Nat) : Prop := l.length = L ∧ ∀ x ∈ l, x.1.size ≤ 100000000 ∧ x.2.size ≤ 100000000
theorem LenS.snoc {l : List Fl} {L : Nat} (h : LenS l L) {a d : ByteArray} (ha : a.size ≤ 100000000) (hd : d.size ≤ 100000000) : LenS (l ++ [(a, d)]) (L + 1) := by
  refine ⟨by rw [List.length_append, h.1]; rfl, fun x hx => ?_⟩
  rcases List.mem_append.1 hx with hx | hx
  · exact h.2 x hx
  · simp at hx; subst hx; exact ⟨ha, hd⟩
theorem LenS.len {l : List Fl} {L : Nat} (h : LenS l L) : l.length = L := h.1
theorem LenS.sz {l : List Fl} {L : Nat} (h : LenS l L) : ∀ x ∈ l, x.1.size ≤ 100000000 ∧ x.2.size ≤ 100000000 := h.2
theorem takeText_is (s a b : ByteArray) (most k : Int) (h : takeT s.toList most = (a.toList, b.toList, k)) (w : World) (hs : s.size ≤ 9223372036854775807) :
    Calls Try.prog 33 #[.string s, .int .i64 most] w fun e w' => e = .returned (.tuple #[.string a, .string b, .int .i64 k]) ∧ Below w.heap.size w w' :=
  (takeText_any s most w hs).mono fun e w' ⟨he, hb⟩ => ⟨by unfold TextEnd at he; rw [he, h]; simp only [ofL_toList], hb⟩
theorem takeT_some (s : ByteArray) (most : Int) : ∃ (a b : ByteArray) (k : Int), takeT s.toList most = (a.toList, b.toList, k) ∧ a.size ≤ s.size ∧ b.size ≤ s.size :=
  ⟨ofL (takeT s.toList most).1, ofL (takeT s.toList most).2.1, (takeT s.toList most).2.2, by rw [toList_ofL, toList_ofL], by rw [size_ofL]; have := (takeT_len s.toList most).1; rw [size_toList] at this; exact this, by rw [size_ofL]; have := (takeT_len s.toList most).2; rw [size_toList] at this; exact this⟩
section
variable {X : Int × List Fl} {m : Nat} {s a b d s2 : ByteArray} {l : List Fl} {k k2 : Int}
theorem tk_bad1 (h : TkRel X 0 (m + 1) s l) (h1 : takeT s.toList 4096 = (a.toList, b.toList, k)) (hk : k ≠ 0) : X = (k, []) := by
  rw [h.2 rfl, tkF, h1]; simp only; rw [if_pos hk]; unfold fin; rw [if_pos (by simpa using hk)]
theorem tk_bad2 (h : TkRel X 0 (m + 1) s l) (h1 : takeT s.toList 4096 = (a.toList, b.toList, 0)) (h2 : takeT b.toList 1048576 = (d.toList, s2.toList, k2)) (hk : k2 ≠ 0) : X = (k2, []) := by
  rw [h.2 rfl, tkF, h1]; simp only; rw [if_neg (by simp), h2]; simp only; rw [if_pos hk]; unfold fin; rw [if_pos (by simpa using hk)]
theorem tk_step (h : TkRel X 0 (m + 1) s l) (h1 : takeT s.toList 4096 = (a.toList, b.toList, 0)) (h2 : takeT b.toList 1048576 = (d.toList, s2.toList, 0)) :
    X = fin (if okP a ≠ 0 then (5, [], []) else if ∃ y, l.getLast? = some y ∧ ¬ ltF y (a, d) then (2, [], []) else tkF m s2.toList (l ++ [(a, d)])) := by
  rw [h.2 rfl, tkF, h1]; simp only; rw [if_neg (by simp), h2]; simp only [ofL_toList]; rw [if_neg (by simp)]
theorem tk_path (h : TkRel X 0 (m + 1) s l) (h1 : takeT s.toList 4096 = (a.toList, b.toList, 0)) (h2 : takeT b.toList 1048576 = (d.toList, s2.toList, 0)) (hp : okP a = 5) (l2 : List Fl) : TkRel X 5 m s2 l2 := by
  refine ⟨fun _ => ?_, fun h => absurd h (by decide)⟩
  rw [tk_step h h1 h2, if_pos (by rw [hp]; decide)]; rfl
theorem tk_order (h : TkRel X 0 (m + 1) s l) (h1 : takeT s.toList 4096 = (a.toList, b.toList, 0)) (h2 : takeT b.toList 1048576 = (d.toList, s2.toList, 0)) (hp : okP a = 0) {y : Fl} (hy : l.getLast? = some y) (hlt : ¬ ltF y (a, d)) (l2 : List Fl) : TkRel X 2 m s2 l2 := by
  refine ⟨fun _ => ?_, fun h => absurd h (by decide)⟩
  rw [tk_step h h1 h2, if_neg (by rw [hp]; simp), if_pos ⟨y, hy, hlt⟩]; rfl
theorem tk_next (h : TkRel X 0 (m + 1) s l) (h1 : takeT s.toList 4096 = (a.toList, b.toList, 0)) (h2 : takeT b.toList 1048576 = (d.toList, s2.toList, 0)) (hp : okP a = 0) (hy : ∀ y, l.getLast? = some y → ltF y (a, d)) : TkRel X 0 m s2 (l ++ [(a, d)]) := by
  refine ⟨fun h => absurd rfl h, fun _ => ?_⟩
  rw [tk_step h h1 h2, if_neg (by rw [hp]; simp), if_neg (fun ⟨y, e1, e2⟩ => e2 (hy y e1))]
end
def TakeFEnd (X : Int × List Fl) (w : World) (e : Ending) (w' : World) : Prop :=
  ∃ (B : Option Addr) (c : Nat), e = .returned (.tuple #[.slice B X.2.length c, .int .i64 X.1]) ∧ X.2.length ≤ c ∧ c ≤ maxLen ∧ Rd w' B (fl X.2) ∧ Below w.heap.size w w'
theorem TakeFEnd.nil {X : Int × List Fl} {k : Int} {w w' : World} (h : X = (k, [])) (hb : Below w.heap.size w w') : TakeFEnd X w (.returned (.tuple #[.slice none 0 0, .int .i64 k])) w' := by
  subst h
  exact ⟨none, 0, rfl, Nat.le_refl _, by unfold maxLen; omega, Rd.nil _ _, hb⟩
theorem TakeFEnd.good {X : Int × List Fl} {l : List Fl} {L c : Nat} {B : Option Addr} {w w' : World} (h : X = (0, l)) (hl : l.length = L) (hc : L ≤ c) (hm : c ≤ maxLen) (hr : Rd w' B (fl l)) (hb : Below w.heap.size w w') : TakeFEnd X w (.returned (.tuple #[.slice B L c, .int .i64 0])) w' := by
  subst h
  subst hl
  exact ⟨B, c, rfl, hc, hm, hr, hb⟩

set_option maxRecDepth 20000 in
set_option maxHeartbeats 8000000 in
theorem ftake_any (s0 : ByteArray) (X : Int × List Fl) (hX : takeFl s0.toList = X) (w : World) (hs : s0.size ≤ 100000000) :
    Calls Try.prog 17 #[.string s0] w (TakeFEnd X w) := by
  rcases h : takeN s0.toList with _ | ⟨n, r⟩
  · have HE := Lib.hid (show X = (2, []) by rw [← hX]; unfold takeFl; rw [h])
    have H := Lib.hid h
    clear h hX
    go_enter Try.func17, Try.ntmps17
    go_wp2_with fail
    (with_reducible refine (takeNum_none s0 _ (by omega) H.out).mono ?_)
    rintro e w1 ⟨rfl, hb1⟩
    go_wp2_with fail
    go_loopw [0, 4, 5, 6] (fun vs vn ve vl wr => vs = .string ⟨#[]⟩ ∧ vn = .int .i64 0 ∧ ve = .int .i64 2 ∧ vl = .slice none 0 0 ∧ Below w.heap.size w wr) (fun _ _ _ _ _ => 0)
    case atStart => exact ⟨rfl, rfl, rfl, rfl, hb1⟩
    case round =>
      clear hb1
      obtain ⟨rfl, rfl, rfl, rfl, hb⟩ := hrel
      go_wp2_with fail
      go_ret2
      exact TakeFEnd.nil HE.out hb
  · obtain ⟨s1, hs1⟩ : ∃ s1, ofL r = s1 := ⟨_, rfl⟩
    have hs1r : s1.toList = r := by rw [← hs1, toList_ofL]
    have hs1z : s1.size ≤ 100000000 := by
      have h9 := congrArg List.length (takeN_some _ _ _ h).1
      rw [List.length_append, size_toList] at h9
      rw [← size_toList, hs1r]
      omega
    have H := Lib.hid h
    have HS1 := Lib.hid hs1
    have HNB := Lib.hid (takeN_some _ _ _ h).2
    by_cases h64 : (64 : Int) < (n : Int)
    · have HE := Lib.hid (show X = (3, []) by rw [← hX]; unfold takeFl; rw [h]; simp only; rw [if_pos (by omega)])
      clear h hX hs1 hs1r
      go_enter Try.func17, Try.ntmps17
      go_wp2_with fail
      (with_reducible refine (takeNum_some s0 _ (by omega) n r H.out).mono ?_)
      rw [HS1.out]
      rintro e w1 ⟨rfl, hb1⟩
      go_wp2_with fail
      go_loopw [0, 4, 5, 6] (fun vs vn ve vl wr => vs = .string s1 ∧ vn = .int .i64 n ∧ ve = .int .i64 3 ∧ vl = .slice none 0 0 ∧ Below w.heap.size w wr) (fun _ _ _ _ _ => 0)
      case atStart => exact ⟨rfl, rfl, rfl, rfl, hb1⟩
      case round =>
        clear hb1
        obtain ⟨rfl, rfl, rfl, rfl, hb⟩ := hrel
        go_wp2_with fail
        go_ret2
        exact TakeFEnd.nil HE.out hb
    · have HT0 := Lib.hid (show TkRel X 0 n s1 [] from ⟨fun h => absurd rfl h, fun _ => by rw [← hX, hs1r]; unfold takeFl; rw [h]; simp only; rw [if_neg (by omega)]⟩)
      clear h hX hs1 hs1r
      go_enter Try.func17, Try.ntmps17
      go_wp2_with fail
      (with_reducible refine (takeNum_some s0 _ (by omega) n r H.out).mono ?_)
      rw [HS1.out]
      rintro e w1 ⟨rfl, hb1⟩
      go_wp2_with fail
      go_loopw [0, 4, 5, 6] (fun vs vn ve vl wr => ∃ (n : Nat) (s : ByteArray) (e : Int) (l : List Fl) (v : Value) (L : Nat), vn = .int .i64 n ∧ vs = .string s ∧ ve = .int .i64 e ∧ vl = v ∧ L + n ≤ 64 ∧ s.size ≤ 100000000 ∧ wr.ownsRow w.heap.size 41 2 v L (fl l) ∧ Hid (LenS l L) ∧ Hid (TkRel X e n s l) ∧ Below w.heap.size w wr) (fun _ vn _ _ _ => (intOf vn).toNat)
      case atStart => exact ⟨n, s1, 0, [], _, 0, rfl, rfl, rfl, rfl, by omega, hs1z, World.ownsRow_nil _ _ _ _, Lib.hid ⟨rfl, by simp⟩, HT0, hb1⟩
      case round =>
        clear hb1 H HS1 HNB HT0 h64 hs1z
        obtain ⟨n, s, e, l, v, L, rfl, rfl, rfl, rfl, hLn, hsz, hown, HL, HT, hb⟩ := hrel
        have Hown := Lib.hid hown
        obtain ⟨_, A1, c1, hv, hq1, hq2, hq3⟩ := Sl.own hown
        subst hv
        have HR := Lib.hid hq3
        clear hq3
        by_cases he : e = 0
        · subst he
          by_cases hn : 0 < n
          · obtain ⟨m, rfl⟩ : ∃ m, n = m + 1 := ⟨n - 1, by omega⟩
            clear hn
            obtain ⟨a, b, k, h1, ha, hbz⟩ := takeT_some s 4096
            have H1 := Lib.hid h1
            have hbR := (Below.refl wr.heap.size wr).alloc (Nat.le_refl _) (.cells #[.string ⟨#[]⟩, .string ⟨#[]⟩] 41)
            have hB := Bk.new wr 41 #[.string ⟨#[]⟩, .string ⟨#[]⟩]
            clear h1
            go_wp2_with fail
            (with_reducible refine (takeText_is s a b 4096 k H1.out _ (by omega)).mono ?_)
            rintro e w5 ⟨rfl, hb5⟩
            have hbR5 := hbR.trans (hb5.mono (by simp))
            have hB5 := hB.below' hb5
            have p0 := hB5.cell 0
            have p1 := hB5.cell 1
            simp only [List.getElem?_toArray, List.getElem?_cons_succ, List.getElem?_cons_zero] at p0 p1
            have f0 := hB5.frozen 0
            have f1 := hB5.frozen 1
            clear hbR hB hb5
            by_cases hk : k = 0
            · subst hk
              obtain ⟨d, s2, k2, h2, hdz, hs2z⟩ := takeT_some b 1048576
              have H2 := Lib.hid h2
              have hB6 := hB5.set_ 0 (.string a)
              have hbR6 := hbR5.setCell (p := ⟨wr.heap.size, 0, none⟩) (Nat.le_refl _) (.string a)
              clear h2
              go_wp2_with fail
              (with_reducible refine (takeText_is b d s2 1048576 k2 H2.out _ (by omega)).mono ?_)
              rintro e w7 ⟨rfl, hb7⟩
              have hbR7 := hbR6.trans (hb7.mono (by rw [World.size_setCell]; exact hbR5.size))
              have hB7 := hB6.below' hb7
              simp only [List.setIfInBounds_toArray, List.set_cons_zero, List.set_cons_succ] at hB7
              clear p0 p1 f0 f1 hB6 hbR6 hbR5 hB5 hb7
              have p0 := hB7.cell 0
              have p1 := hB7.cell 1
              simp only [List.getElem?_toArray, List.getElem?_cons_succ, List.getElem?_cons_zero] at p0 p1
              have f0 := hB7.frozen 0
              have f1 := hB7.frozen 1
              by_cases hk2 : k2 = 0
              · subst hk2
                have hB8 := hB7.set_ 1 (.string d)
                simp only [List.setIfInBounds_toArray, List.set_cons_zero, List.set_cons_succ] at hB8
                have hbR8 := hbR7.setCell (p := ⟨wr.heap.size, 1, none⟩) (Nat.le_refl _) (.string d)
                have q0 := hB8.cell 0
                have q1 := hB8.cell 1
                simp only [List.getElem?_toArray, List.getElem?_cons_succ, List.getElem?_cons_zero] at q0 q1
                have HL2 := Lib.hid (HL.out.snoc (a := a) (d := d) (by omega) (by omega))
                obtain ⟨kp, hkp⟩ : ∃ kp, okP a = kp := ⟨_, rfl⟩
                have HKP := Lib.hid hkp
                have hkp2 : kp = 0 ∨ kp = 5 := by rw [← hkp]; exact okP_two a
                clear hkp
                go_upto_region 12 with (fail)
                generalize w7.setCell ⟨wr.heap.size, 1, none⟩ (.string d) = w7' at *
                clear p0 p1 f0 f1 hbR7 hB7
                go_wp2_with fail
                (with_reducible refine (check_is a kp HKP.out _ (by omega)).mono ?_)
                rintro e w8 ⟨rfl, hb8⟩
                have hb9 := hbR8.trans (hb8.mono hbR8.size)
                have hB9 := hB8.below' hb8
                clear q0 q1 hB8 hbR8 hb8
                have hbR8 := hb9
                have hB8 := hB9
                clear hb9 hB9
                have hbb8 := bl hb hbR8
                have p0 := hB8.cell 0
                have p1 := hB8.cell 1
                simp only [List.getElem?_toArray, List.getElem?_cons_succ, List.getElem?_cons_zero] at p0 p1
                rcases hkp2 with rfl | rfl
                · rcases Nat.eq_zero_or_pos L with rfl | hLp
                  · have HT2 : Hid (TkRel X 0 m s2 (l ++ [(a, d)])) := Lib.hid (tk_next HT.out H1.out H2.out HKP.out (by rw [List.eq_nil_of_length_eq_zero (LenS.len HL.out)]; simp))
                    go_wp2_with fail
                    go_quiet (fail)
                    have hown9 := own_below (own_below hown hbR8) (below_dn (Below.refl _ _) nq)
                    have hbb9 := below_dn hbb8 nq
                    have p0 := (hB8.cell 0)
                    have p1 := (hB8.cell 1)
                    simp only [List.getElem?_toArray, List.getElem?_cons_succ, List.getElem?_cons_zero] at p0 p1
                    have p0' : (w8.drewN nq).cell? ⟨wr.heap.size, 0, none⟩ = some (.string a) := p0
                    have p1' : (w8.drewN nq).cell? ⟨wr.heap.size, 1, none⟩ = some (.string d) := p1
                    clear p0 p1 hB8 hbR8 hown hbb8
                    try clear y0
                    generalize w8.drewN nq = w9 at *
                    have hz9 := hbb9.size
                    go_wp2_with (at_builtin; go_must (refine wpList_append_new w9 rfl (.tmp 69) (.tmp 71) 22 rfl w.heap.size 41 2 32 el_file _ _ _ hown9 rfl _ rfl rfl (by intro u hu; simp at hu; rcases hu with rfl | rfl <;> rfl) (by unfold maxLen; omega) (by omega) hz9 ?_); intro v10 w10 hown10 hb10)
                    have hown11 : w10.ownsRow w.heap.size 41 2 v10 (0 + 1) (fl (l ++ [(a, d)])) := by rw [fl_app]; exact hown10
                    have hb11 := hbb9.trans hb10
                    go_round
                    case rel => exact ⟨m, s2, 0, l ++ [(a, d)], v10, 0 + 1, by first | rfl | go_num, rfl, rfl, rfl, by omega, by omega, hown11, HL2, HT2, hb11⟩
                    case measure => simp [intOf]
                  · obtain ⟨g, cg, ev, _, _, hg, hF⟩ := FRow.own hown hLp
                    simp only [Value.slice.injEq] at ev
                    obtain ⟨rfl, -, rfl⟩ := ev
                    obtain ⟨q, rfl⟩ : ∃ q, L = q + 1 := ⟨L - 1, by omega⟩
                    obtain ⟨y, hy⟩ : ∃ y, l[q]? = some y := ⟨_, getD_some (by rw [LenS.len HL.out]; omega)⟩
                    obtain ⟨yp, yd⟩ := y
                    have hF8 := hF.below' hbR8
                    obtain ⟨y0, y1⟩ := hF8.cell hy
                    have HGL := Lib.hid (show l.getLast? = some (yp, yd) by rw [List.getLast?_eq_getElem?, LenS.len HL.out]; exact hy)
                    have hwq : IntKind.i64.wrap (q : Int) = (q : Int) := by rw [IntKind.wrap_i64]; omega
                    have hq0 : (0 : Int) ≤ (q : Int) := by omega
                    have hq1' : (q : Int) < ((q : Int) + 1) := by omega
                    obtain ⟨c, hc⟩ : ∃ c, cmpB yp a = c := ⟨_, rfl⟩
                    have HC := Lib.hid hc
                    have hcl := ltF_cmp (yp, yd) (a, d)
                    rw [show cmpB (yp, yd).1 (a, d).1 = c from hc] at hcl
                    have HCL := Lib.hid hcl
                    clear hc hcl hF hy hLp y1 hF8 hg
                    by_cases hc0 : c < 0
                    · have HT2 : Hid (TkRel X 0 m s2 (l ++ [(a, d)])) := Lib.hid (tk_next HT.out H1.out H2.out HKP.out (by rw [HGL.out]; intro y hy; cases hy; exact HCL.out.1 hc0))
                      go_wp2_with fail
                      go_quiet (first | (go_at_call 30; refine Calls.quiet_of_same (compare_k yp a c HC.out _)))
                      have hown9 := own_below (own_below hown hbR8) (below_dn (Below.refl _ _) nq)
                      have hbb9 := below_dn hbb8 nq
                      have p0 := (hB8.cell 0)
                      have p1 := (hB8.cell 1)
                      simp only [List.getElem?_toArray, List.getElem?_cons_succ, List.getElem?_cons_zero] at p0 p1
                      have p0' : (w8.drewN nq).cell? ⟨wr.heap.size, 0, none⟩ = some (.string a) := p0
                      have p1' : (w8.drewN nq).cell? ⟨wr.heap.size, 1, none⟩ = some (.string d) := p1
                      clear p0 p1 hB8 hbR8 hown hbb8
                      try clear y0
                      generalize w8.drewN nq = w9 at *
                      have hz9 := hbb9.size
                      go_wp2_with (at_builtin; go_must (refine wpList_append_new w9 rfl (.tmp 69) (.tmp 71) 22 rfl w.heap.size 41 2 32 el_file _ _ _ hown9 rfl _ rfl rfl (by intro u hu; simp at hu; rcases hu with rfl | rfl <;> rfl) (by unfold maxLen; omega) (by omega) hz9 ?_); intro v10 w10 hown10 hb10)
                      have hown11 : w10.ownsRow w.heap.size 41 2 v10 (q + 1 + 1) (fl (l ++ [(a, d)])) := by rw [fl_app]; exact hown10
                      have hb11 := hbb9.trans hb10
                      go_round
                      case rel => exact ⟨m, s2, 0, l ++ [(a, d)], v10, q + 1 + 1, by first | rfl | go_num, rfl, rfl, rfl, by omega, by omega, hown11, HL2, HT2, hb11⟩
                      case measure => simp [intOf]
                    · have HT2 : Hid (TkRel X 2 m s2 (l ++ [(a, d)])) := Lib.hid (tk_order HT.out H1.out H2.out HKP.out HGL.out (fun h => hc0 (HCL.out.2 h)) _)
                      go_wp2_with fail
                      go_quiet (first | (go_at_call 30; refine Calls.quiet_of_same (compare_k yp a c HC.out _)))
                      have hown9 := own_below (own_below hown hbR8) (below_dn (Below.refl _ _) nq)
                      have hbb9 := below_dn hbb8 nq
                      have p0 := (hB8.cell 0)
                      have p1 := (hB8.cell 1)
                      simp only [List.getElem?_toArray, List.getElem?_cons_succ, List.getElem?_cons_zero] at p0 p1
                      have p0' : (w8.drewN nq).cell? ⟨wr.heap.size, 0, none⟩ = some (.string a) := p0
                      have p1' : (w8.drewN nq).cell? ⟨wr.heap.size, 1, none⟩ = some (.string d) := p1
                      clear p0 p1 hB8 hbR8 hown hbb8
                      try clear y0
                      generalize w8.drewN nq = w9 at *
                      have hz9 := hbb9.size
                      go_wp2_with (at_builtin; go_must (refine wpList_append_new w9 rfl (.tmp 69) (.tmp 71) 22 rfl w.heap.size 41 2 32 el_file _ _ _ hown9 rfl _ rfl rfl (by intro u hu; simp at hu; rcases hu with rfl | rfl <;> rfl) (by unfold maxLen; omega) (by omega) hz9 ?_); intro v10 w10 hown10 hb10)
                      have hown11 : w10.ownsRow w.heap.size 41 2 v10 (q + 1 + 1) (fl (l ++ [(a, d)])) := by rw [fl_app]; exact hown10
                      have hb11 := hbb9.trans hb10
                      go_round
                      case rel => exact ⟨m, s2, 2, l ++ [(a, d)], v10, q + 1 + 1, by first | rfl | go_num, rfl, rfl, rfl, by omega, by omega, hown11, HL2, HT2, hb11⟩
                      case measure => simp [intOf]
                · have HT2 : Hid (TkRel X 5 m s2 (l ++ [(a, d)])) := Lib.hid (tk_path HT.out H1.out H2.out HKP.out _)
                  go_wp2_with fail
                  go_quiet (fail)
                  have hown9 := own_below (own_below hown hbR8) (below_dn (Below.refl _ _) nq)
                  have hbb9 := below_dn hbb8 nq
                  have p0 := (hB8.cell 0)
                  have p1 := (hB8.cell 1)
                  simp only [List.getElem?_toArray, List.getElem?_cons_succ, List.getElem?_cons_zero] at p0 p1
                  have p0' : (w8.drewN nq).cell? ⟨wr.heap.size, 0, none⟩ = some (.string a) := p0
                  have p1' : (w8.drewN nq).cell? ⟨wr.heap.size, 1, none⟩ = some (.string d) := p1
                  clear p0 p1 hB8 hbR8 hown hbb8
                  try clear y0
                  generalize w8.drewN nq = w9 at *
                  have hz9 := hbb9.size
                  go_wp2_with (at_builtin; go_must (refine wpList_append_new w9 rfl (.tmp 69) (.tmp 71) 22 rfl w.heap.size 41 2 32 el_file _ _ _ hown9 rfl _ rfl rfl (by intro u hu; simp at hu; rcases hu with rfl | rfl <;> rfl) (by unfold maxLen; omega) (by omega) hz9 ?_); intro v10 w10 hown10 hb10)
                  have hown11 : w10.ownsRow w.heap.size 41 2 v10 (L + 1) (fl (l ++ [(a, d)])) := by rw [fl_app]; exact hown10
                  have hb11 := hbb9.trans hb10
                  go_round
                  case rel => exact ⟨m, s2, 5, l ++ [(a, d)], v10, L + 1, by first | rfl | go_num, rfl, rfl, rfl, by omega, by omega, hown11, HL2, HT2, hb11⟩
                  case measure => simp [intOf]
              · have HE := Lib.hid (tk_bad2 HT.out H1.out H2.out hk2)
                have hk0 : (k2 == 0) = false := by simp [hk2]
                have hbE := bl hb (hbR7.setCell (p := ⟨wr.heap.size, 1, none⟩) (Nat.le_refl _) (.string d))
                clear hk2
                go_wp2_with fail
                go_ret2
                exact TakeFEnd.nil HE.out hbE
            · have HE := Lib.hid (tk_bad1 HT.out H1.out hk)
              have hk0 : (k == 0) = false := by simp [hk]
              have hbE := bl hb (hbR5.setCell (p := ⟨wr.heap.size, 0, none⟩) (Nat.le_refl _) (.string a))
              clear hk
              go_wp2_with fail
              go_ret2
              exact TakeFEnd.nil HE.out hbE
          · obtain rfl : n = 0 := by omega
            have HX := Lib.hid (HT.out.2 rfl)
            by_cases hse : s.toList = []
            · have hse' : s.toList.isEmpty = true := by rw [hse]; rfl
              obtain ⟨k, hk⟩ : ∃ k, checkF l = k := ⟨_, rfl⟩
              have HK := Lib.hid hk
              have HSE := Lib.hid hse
              clear hk hse
              go_wp2_with fail
              (with_reducible refine (fcheck_any l A1 L c1 k HK.out (LenS.len HL.out) hq1 (by omega) (LenS.sz HL.out) _ HR.out).mono ?_)
              rintro e w5 ⟨rfl, hb5⟩
              have hbE := bl hb hb5
              have hr5 := Lib.hid (HR.out.below hb5)
              by_cases hk : k = 0
              · subst hk
                have HE := Lib.hid (show X = (0, l) by rw [HX.out, tkF]; unfold fin; simp only; rw [if_neg (by simp), if_neg (by rw [HSE.out]; simp), if_neg (by rw [HK.out]; simp)])
                go_wp2_with fail
                go_ret2
                exact TakeFEnd.good HE.out (LenS.len HL.out) hq1 hq2 hr5.out hbE
              · have HE := Lib.hid (show X = (k, []) by rw [HX.out, tkF]; unfold fin; simp only; rw [if_neg (by simp), if_neg (by rw [HSE.out]; simp), if_pos (by rw [HK.out]; exact hk), HK.out])
                have hk0 : (k == 0) = false := by simp [hk]
                clear hk
                go_wp2_with fail
                go_ret2
                exact TakeFEnd.nil HE.out hbE
            · have hse' : s.toList.isEmpty = false := by cases h9 : s.toList with | nil => exact absurd h9 hse | cons => rfl
              have HE := Lib.hid (show X = (2, []) by rw [HX.out, tkF]; unfold fin; simp only; rw [if_neg (by simp), if_pos hse])
              clear hse
              go_wp2_with fail
              go_ret2
              exact TakeFEnd.nil HE.out hb
        · have HE := Lib.hid (HT.out.1 he)
          have he0 : (e == 0) = false := by simp [he]
          clear he
          go_wp2_with fail
          all_goals go_ret2
          all_goals exact TakeFEnd.nil HE.out hb
end Go.Proofs.Ytbgnbkomckbckaa
