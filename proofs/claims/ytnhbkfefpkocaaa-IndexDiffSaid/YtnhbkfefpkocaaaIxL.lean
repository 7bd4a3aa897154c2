/-
  Parts (archives' files) in a row; sledgelaw44.few.
-/
import Derived.Test.YtnhbkfefpkocaaaIxE
namespace Go.Proofs.Ytnhbkfefpkocaaa
open Go.RowKit Go.Sort

/-- An archive's number, and its files' slice. -/
structure Pt where
  id : Int
  fa : Option Addr
  fn : Nat
  fc : Nat
  fs : List Fl
def pf : List Pt → List Value
  | [] => []
  | x :: l => .int .i64 x.id :: .slice x.fa x.fn x.fc :: pf l
theorem pf_len (l : List Pt) : (pf l).length = l.length * 2 := by
  induction l with
  | nil => rfl
  | cons x l ih => simp only [pf, List.length_cons, ih]; omega
theorem pf_app (a b : List Pt) : pf (a ++ b) = pf a ++ pf b := by
  induction a with
  | nil => rfl
  | cons x a ih => simp only [List.cons_append, pf, ih]
theorem pf_get0 (l : List Pt) (i : Nat) : (pf l)[i * 2]? = l[i]?.map fun x => Value.int .i64 x.id := by
  induction l generalizing i with
  | nil => simp [pf]
  | cons x l ih =>
    cases i with
    | zero => rfl
    | succ i => rw [show (i + 1) * 2 = i * 2 + 1 + 1 by omega]; simp only [pf, List.getElem?_cons_succ]; exact ih i
theorem pf_get1 (l : List Pt) (i : Nat) : (pf l)[i * 2 + 1]? = l[i]?.map fun x => Value.slice x.fa x.fn x.fc := by
  induction l generalizing i with
  | nil => simp [pf]
  | cons x l ih =>
    cases i with
    | zero => rfl
    | succ i => rw [show (i + 1) * 2 + 1 = i * 2 + 1 + 1 + 1 by omega]; simp only [pf, List.getElem?_cons_succ]; exact ih i
theorem Rd.part {w : World} {A : Option Addr} {l : List Pt} (h : Rd w A (pf l)) {i : Nat} {x : Pt} (hx : l[i]? = some x) : ∃ b o, A = some ⟨b, o, none⟩ ∧ b < w.heap.size ∧ w.cell? ⟨b, o + i * 2, none⟩ = some (.int .i64 x.id) ∧ w.cell? ⟨b, o + i * 2 + 1, none⟩ = some (.slice x.fa x.fn x.fc) := by
  have hi : i < l.length := (List.getElem?_eq_some_iff.1 hx).1
  obtain ⟨b, o, e, hc⟩ := h (by intro e; have := pf_len l; rw [e] at this; simp at this; omega)
  have q0 := hc (i * 2) (.int .i64 x.id) (by rw [pf_get0, hx]; rfl)
  have q1 := hc (i * 2 + 1) (.slice x.fa x.fn x.fc) (by rw [pf_get1, hx]; rfl)
  exact ⟨b, o, e, World.block_lt_of_cell? w _ q0, q0, q1⟩
/-- Each archive's files are there. -/
def PtOk (w : World) (x : Pt) : Prop := x.fs.length = x.fn ∧ x.fn ≤ x.fc ∧ x.fc ≤ maxLen ∧ Rd w x.fa (fl x.fs)
theorem PtOk.below {w w' : World} {x : Pt} (h : PtOk w x) (hb : Below w.heap.size w w') : PtOk w' x := ⟨h.1, h.2.1, h.2.2.1, h.2.2.2.below hb⟩
/-- Not too many, nor too great. -/
def PtFew (x : Pt) : Prop := x.fs.length ≤ 40 ∧ ∀ f ∈ x.fs, f.1.size ≤ 20000 ∧ f.2.size ≤ 20000
theorem Rd.takeFX {w : World} {A : Option Addr} {l : List Fl} (h : Rd w A (fl l)) (k : Nat) : Rd w A (fl (l.take k)) := by
  have h1 := h.take (k * 2)
  have e : (fl l).take (k * 2) = fl (l.take k) := by
    clear h h1
    induction k generalizing l with
    | zero => simp [fl]
    | succ k ih =>
      cases l with
      | nil => simp [fl]
      | cons x l => rw [show (k + 1) * 2 = k * 2 + 1 + 1 by omega]; simp only [fl, List.take_succ_cons]; rw [ih]
  rw [e] at h1
  exact h1
theorem Try.info37 : (Try.prog.info? 37).map (fun i => (i.zero, i.size, i.bytes)) = some (some (.agg #[.int .i64 0, .slice none 0 0]), 2, 32) := by kernel_rfl
theorem el_part : El Try.prog 22 37 2 32 := El.mk_ (z := .agg #[.int .i64 0, .slice none 0 0]) Try.underlying22 Try.info37 (by omega) rfl
theorem small_stepX {l : List Fl} {k : Nat} {x : Fl} {B : Nat} (h : ∀ y ∈ l.take k, y.1.size ≤ B ∧ y.2.size ≤ B) (hx : l[k]? = some x) (h1 : x.1.size ≤ B) (h2 : x.2.size ≤ B) : ∀ y ∈ l.take (k + 1), y.1.size ≤ B ∧ y.2.size ≤ B := by
  intro y hy
  rw [List.take_add_one, hx] at hy
  rcases List.mem_append.1 hy with hy | hy
  · exact h y hy
  · simp at hy; subst hy; exact ⟨h1, h2⟩
/-- Behind few. -/
def FewEnd (w0 w : World) (e : Ending) (w' : World) : Prop := ∃ (P : List Pt) (v : Value), e = .returned v ∧ w'.ownsRow w.heap.size 37 2 v P.length (pf P) ∧ P.length ≤ 12 ∧ (∀ x ∈ P, PtOk w0 x ∧ PtFew x) ∧ Below w.heap.size w w'

set_option maxRecDepth 20000 in
set_option maxHeartbeats 4000000 in
theorem few_any (P : List Pt) (A : Option Addr) (n c : Nat) (hn : P.length = n) (hnb : n ≤ 9223372036854775807) (w0 w : World) (hw0 : Below w0.heap.size w0 w) (hr : Rd w A (pf P)) (hok : ∀ x ∈ P, PtOk w0 x) :
    Calls Try.prog 15 #[.slice A n c] w (FewEnd w0 w) := by
  have HW0 := Lib.hid hw0
  clear hw0
  have HN := Lib.hid (And.intro hn trivial)
  have mixed : Try.prog.follows Departure.mixedOrders = true := by kernel_rfl
  have HR := Lib.hid hr
  have HOK := Lib.hid hok
  clear hn hr hok
  go_enter Try.func15, Try.ntmps15
  go_wp2_with fail
  go_loopw [3, 4, 5] (fun vo vs vi wr => ∃ (i s : Nat) (Q : List Pt), vi = .int .i64 (i : Nat) ∧ vs = .int .i64 (s : Nat) ∧ i ≤ n ∧ i ≤ 12 ∧ s ≤ 20000 ∧ Hid (Q.length = i ∧ True) ∧ Hid (wr.ownsRow w.heap.size 37 2 vo i (pf Q)) ∧ Hid (∀ x ∈ Q, PtOk w0 x ∧ PtFew x) ∧ Hid (Below w.heap.size w wr)) (fun _ _ vi _ => n - iOfI vi)
  case atStart => exact ⟨0, 0, [], rfl, rfl, by omega, by omega, by omega, Lib.hid ⟨rfl, trivial⟩, Lib.hid ⟨rfl, Or.inl ⟨rfl, rfl⟩⟩, Lib.hid (by simp), Lib.hid (Below.refl _ _)⟩
  case round =>
    obtain ⟨i, s, Q, rfl, rfl, hi, hi12, hs, HQ, HO, HF, HB⟩ := hrel
    have hend : FewEnd w0 w (.returned u3) wr := ⟨Q, u3, rfl, by rw [HQ.out.1]; exact HO.out, by rw [HQ.out.1]; exact hi12, HF.out, HB.out⟩
    have HEND := Lib.hid hend
    clear hend
    by_cases hin : i < n
    · have hin1 : (i : Int) < (n : Int) := by omega
      by_cases h12 : i < 12
      · have h121 : (i : Int) < 12 := by omega
        obtain ⟨x, hx⟩ : ∃ x, P[i]? = some x := ⟨_, List.getElem?_eq_getElem (by rw [HN.out.1]; exact hin)⟩
        obtain ⟨b, o, rfl, hbl, q0, q1⟩ := (HR.out.below HB.out).part hx
        have hokx := HOK.out x (List.mem_of_getElem? hx)
        obtain ⟨id, FA, fn, fc, fs⟩ := x
        obtain ⟨hfl, hnc, hcm, hrf⟩ := hokx
        simp only at hfl hnc hcm hrf q0 q1
        have HX := Lib.hid (And.intro hfl (And.intro hrf hx))
        clear hfl hrf hx
        by_cases h40 : 40 < fn
        · have h401 : (40 : Int) < (fn : Int) := by omega
          have h402 : (40 : Int) ≤ (fc : Int) := by omega
          go_wp2_with fail
          have hbx := Bk.new wr 37 #[.int .i64 id, .slice FA 40 fc]
          have hba := HB.out.alloc HB.out.size (.cells #[.int .i64 id, .slice FA 40 fc] 37)
          have HB2 := Lib.hid (And.intro hbx (And.intro hba (HO.out.alloc (.cells #[.int .i64 id, .slice FA 40 fc] 37))))
          have hszA : (wr.alloc (.cells #[.int .i64 id, .slice FA 40 fc] 37)).heap.size = wr.heap.size + 1 := by simp
          obtain ⟨g, hg⟩ : ∃ g, wr.heap.size = g := ⟨_, rfl⟩
          rw [hg] at HB2 hszA ⊢
          have HSZ := Lib.hid (And.intro hszA (And.intro hg HB.out.size))
          clear hbx hba hszA hg q0 q1
          generalize wr.alloc (.cells #[.int .i64 id, .slice FA 40 fc] 37) = wa at *
          go_loopw [4, 7] (fun vs vk wr => ∃ (k t : Nat), vk = .int .i64 (k : Nat) ∧ vs = .int .i64 (t : Nat) ∧ k ≤ 40 ∧ t ≤ 20000 + k * 2097152 ∧ k ≤ 40 ∧ Hid (t ≤ 20000 → ∀ y ∈ fs.take k, y.1.size ≤ 20000 ∧ y.2.size ≤ 20000) ∧ Hid (∃ q, wr = wa.drewN q)) (fun _ vk _ => 40 - iOfI vk)
          case atStart => exact ⟨0, s, rfl, rfl, by omega, by omega, by omega, Lib.hid (by simp), Lib.hid ⟨0, rfl⟩⟩
          case round =>
            obtain ⟨k, t, rfl, rfl, hk, ht, hk40, HT, HW⟩ := hrel
            obtain ⟨q, hq⟩ := HW.out
            have hbk : Bk wr g 37 #[.int .i64 id, .slice FA 40 fc] := by rw [hq]; exact HB2.out.1
            have hbl2 : Below w.heap.size w wr := by rw [hq]; exact below_dnS HB2.out.2.1 q
            have p0 := hbk.cell_ 0 (.int .i64 id) rfl
            have p1 := hbk.cell_ 1 (.slice FA 40 fc) rfl
            have HBW := Lib.hid (And.intro hbl2 (show wr.ownsRow w.heap.size 37 2 u3 i (pf Q) by rw [hq]; exact HB2.out.2.2))
            have hgs : g < wr.heap.size := hbk.lt
            clear hq hbk hbl2
            by_cases hkm : k < 40
            · have hkm1 : (k : Int) < 40 := by omega
              obtain ⟨f, hf⟩ : ∃ f, fs[k]? = some f := ⟨_, List.getElem?_eq_getElem (by rw [HX.out.1]; omega)⟩
              obtain ⟨fb, fo, rfl, r0, r1⟩ := ((HX.out.2.1.below HW0.out).below HBW.out.1).fileX hf
              obtain ⟨fp, fd⟩ := f
              obtain ⟨pz, hpz⟩ : ∃ p : Nat, min (fp.size : Int) 1048576 = p := ⟨min fp.size 1048576, by omega⟩
              obtain ⟨dz, hdz⟩ : ∃ d : Nat, min (fd.size : Int) 1048576 = d := ⟨min fd.size 1048576, by omega⟩
              have hp2 : pz ≤ 1048576 := by omega
              have hd2 : dz ≤ 1048576 := by omega
              have w1 : IntKind.i64.wrap ((t : Int) + (pz : Int)) = (t : Int) + (pz : Int) := by rw [IntKind.wrap_i64]; omega
              have w2 : IntKind.i64.wrap ((t : Int) + (pz : Int) + (dz : Int)) = (t : Int) + (pz : Int) + (dz : Int) := by rw [IntKind.wrap_i64]; omega
              have HPD := Lib.hid (show (pz ≤ 20000 → fp.size ≤ 20000) ∧ (dz ≤ 20000 → fd.size ≤ 20000) from ⟨by omega, by omega⟩)
              have HFK := Lib.hid (And.intro hf trivial)
              clear hf
              go_wp2_with fail
              go_quiet (fail)
              go_wp2_with fail
              go_round
              case rel => exact ⟨k + 1, t + pz + dz, by first | rfl | go_num, by first | rfl | go_num | (congr 1; omega), by omega, by omega, by omega, Lib.hid (fun hle => small_stepX (HT.out (by omega)) HFK.out.1 (HPD.out.1 (by omega)) (HPD.out.2 (by omega))), Lib.hid (by obtain ⟨q, hq⟩ := HW.out; exact ⟨q + nq, by rw [hq, World.drewN_drewN]⟩)⟩
              case measure => simp [iOfI]; omega
            · obtain rfl : k = 40 := by omega
              by_cases hbig : 20000 < t
              · have hbig1 : (20000 : Int) < (t : Int) := by omega
                go_wp2_with fail
                go_ret
                exact ⟨Q, u3, rfl, by rw [HQ.out.1]; exact HBW.out.2, by rw [HQ.out.1]; exact hi12, HF.out, HBW.out.1⟩
              · have hbig1 : ¬ ((20000 : Int) < (t : Int)) := by omega
                have hone : ∀ u ∈ (#[.int .i64 id, .slice FA 40 fc] : Array Value).toList, u.oneCell' = true := fun u hu => by
                  simp at hu
                  rcases hu with rfl | rfl <;> rfl
                have hbase : w.heap.size ≤ wr.heap.size := HBW.out.1.size
                go_wp2_with (at_builtin; go_must (refine wpList_append_new _ rfl (.tmp 59) (.tmp 61) 22 rfl w.heap.size 37 2 32 el_part _ _ _ HBW.out.2 (by rfl) _ (by rfl) rfl hone (by unfold maxLen; omega) (by omega) hbase ?_); intro v5 w5 ho5 hb5)
                have hpt : PtOk w0 ⟨id, FA, 40, fc, fs.take 40⟩ ∧ PtFew ⟨id, FA, 40, fc, fs.take 40⟩ := by
                  have hlt : (fs.take 40).length = 40 := by rw [List.length_take, HX.out.1]; omega
                  exact ⟨⟨hlt, by show 40 ≤ fc; omega, hcm, HX.out.2.1.takeFX 40⟩, by show (fs.take 40).length ≤ 40; rw [hlt]; omega, HT.out (by omega)⟩
                have ho6 : w5.ownsRow w.heap.size 37 2 v5 (i + 1) (pf (Q ++ [⟨id, FA, 40, fc, fs.take 40⟩])) := by
                  rw [pf_app]
                  exact ho5
                have H6 := Lib.hid (And.intro ho6 (And.intro hpt (HBW.out.1.trans hb5)))
                clear ho5 hb5 ho6 hpt hone
                first
                  | (go_round
                     case rel => exact ⟨i + 1, t, Q ++ [⟨id, FA, 40, fc, fs.take 40⟩], by first | rfl | go_num, rfl, by omega, by omega, by omega, Lib.hid ⟨by rw [List.length_append, HQ.out.1]; rfl, trivial⟩, Lib.hid H6.out.1, Lib.hid (fun y hy => by
                       rcases List.mem_append.1 hy with h | h
                       · exact HF.out y h
                       · simp at h; rw [h]; exact H6.out.2.1), Lib.hid H6.out.2.2⟩
                     case measure => simp [iOfI]; omega)
                  | exact ⟨⟨i + 1, t, Q ++ [⟨id, FA, 40, fc, fs.take 40⟩], by first | rfl | go_num, rfl, by omega, by omega, by omega, Lib.hid ⟨by rw [List.length_append, HQ.out.1]; rfl, trivial⟩, Lib.hid H6.out.1, Lib.hid (fun y hy => by
                       rcases List.mem_append.1 hy with h | h
                       · exact HF.out y h
                       · simp at h; rw [h]; exact H6.out.2.1), Lib.hid H6.out.2.2⟩, by simp [iOfI]; omega⟩
        · have h401 : ¬ ((40 : Int) < (fn : Int)) := by omega
          go_wp2_with fail
          have hbx := Bk.new wr 37 #[.int .i64 id, .slice FA fn fc]
          have hba := HB.out.alloc HB.out.size (.cells #[.int .i64 id, .slice FA fn fc] 37)
          have HB2 := Lib.hid (And.intro hbx (And.intro hba (HO.out.alloc (.cells #[.int .i64 id, .slice FA fn fc] 37))))
          have hszA : (wr.alloc (.cells #[.int .i64 id, .slice FA fn fc] 37)).heap.size = wr.heap.size + 1 := by simp
          obtain ⟨g, hg⟩ : ∃ g, wr.heap.size = g := ⟨_, rfl⟩
          rw [hg] at HB2 hszA ⊢
          have HSZ := Lib.hid (And.intro hszA (And.intro hg HB.out.size))
          clear hbx hba hszA hg q0 q1
          generalize wr.alloc (.cells #[.int .i64 id, .slice FA fn fc] 37) = wa at *
          go_loopw [4, 7] (fun vs vk wr => ∃ (k t : Nat), vk = .int .i64 (k : Nat) ∧ vs = .int .i64 (t : Nat) ∧ k ≤ fn ∧ t ≤ 20000 + k * 2097152 ∧ k ≤ 40 ∧ Hid (t ≤ 20000 → ∀ y ∈ fs.take k, y.1.size ≤ 20000 ∧ y.2.size ≤ 20000) ∧ Hid (∃ q, wr = wa.drewN q)) (fun _ vk _ => fn - iOfI vk)
          case atStart => exact ⟨0, s, rfl, rfl, by omega, by omega, by omega, Lib.hid (by simp), Lib.hid ⟨0, rfl⟩⟩
          case round =>
            obtain ⟨k, t, rfl, rfl, hk, ht, hk40, HT, HW⟩ := hrel
            obtain ⟨q, hq⟩ := HW.out
            have hbk : Bk wr g 37 #[.int .i64 id, .slice FA fn fc] := by rw [hq]; exact HB2.out.1
            have hbl2 : Below w.heap.size w wr := by rw [hq]; exact below_dnS HB2.out.2.1 q
            have p0 := hbk.cell_ 0 (.int .i64 id) rfl
            have p1 := hbk.cell_ 1 (.slice FA fn fc) rfl
            have HBW := Lib.hid (And.intro hbl2 (show wr.ownsRow w.heap.size 37 2 u3 i (pf Q) by rw [hq]; exact HB2.out.2.2))
            have hgs : g < wr.heap.size := hbk.lt
            clear hq hbk hbl2
            by_cases hkm : k < fn
            · have hkm1 : (k : Int) < (fn : Int) := by omega
              obtain ⟨f, hf⟩ : ∃ f, fs[k]? = some f := ⟨_, List.getElem?_eq_getElem (by rw [HX.out.1]; omega)⟩
              obtain ⟨fb, fo, rfl, r0, r1⟩ := ((HX.out.2.1.below HW0.out).below HBW.out.1).fileX hf
              obtain ⟨fp, fd⟩ := f
              obtain ⟨pz, hpz⟩ : ∃ p : Nat, min (fp.size : Int) 1048576 = p := ⟨min fp.size 1048576, by omega⟩
              obtain ⟨dz, hdz⟩ : ∃ d : Nat, min (fd.size : Int) 1048576 = d := ⟨min fd.size 1048576, by omega⟩
              have hp2 : pz ≤ 1048576 := by omega
              have hd2 : dz ≤ 1048576 := by omega
              have w1 : IntKind.i64.wrap ((t : Int) + (pz : Int)) = (t : Int) + (pz : Int) := by rw [IntKind.wrap_i64]; omega
              have w2 : IntKind.i64.wrap ((t : Int) + (pz : Int) + (dz : Int)) = (t : Int) + (pz : Int) + (dz : Int) := by rw [IntKind.wrap_i64]; omega
              have HPD := Lib.hid (show (pz ≤ 20000 → fp.size ≤ 20000) ∧ (dz ≤ 20000 → fd.size ≤ 20000) from ⟨by omega, by omega⟩)
              have HFK := Lib.hid (And.intro hf trivial)
              clear hf
              go_wp2_with fail
              go_quiet (fail)
              go_wp2_with fail
              go_round
              case rel => exact ⟨k + 1, t + pz + dz, by first | rfl | go_num, by first | rfl | go_num | (congr 1; omega), by omega, by omega, by omega, Lib.hid (fun hle => small_stepX (HT.out (by omega)) HFK.out.1 (HPD.out.1 (by omega)) (HPD.out.2 (by omega))), Lib.hid (by obtain ⟨q, hq⟩ := HW.out; exact ⟨q + nq, by rw [hq, World.drewN_drewN]⟩)⟩
              case measure => simp [iOfI]; omega
            · obtain rfl : k = fn := by omega
              by_cases hbig : 20000 < t
              · have hbig1 : (20000 : Int) < (t : Int) := by omega
                go_wp2_with fail
                go_ret
                exact ⟨Q, u3, rfl, by rw [HQ.out.1]; exact HBW.out.2, by rw [HQ.out.1]; exact hi12, HF.out, HBW.out.1⟩
              · have hbig1 : ¬ ((20000 : Int) < (t : Int)) := by omega
                have hone : ∀ u ∈ (#[.int .i64 id, .slice FA k fc] : Array Value).toList, u.oneCell' = true := fun u hu => by
                  simp at hu
                  rcases hu with rfl | rfl <;> rfl
                have hbase : w.heap.size ≤ wr.heap.size := HBW.out.1.size
                go_wp2_with (at_builtin; go_must (refine wpList_append_new _ rfl (.tmp 59) (.tmp 61) 22 rfl w.heap.size 37 2 32 el_part _ _ _ HBW.out.2 (by rfl) _ (by rfl) rfl hone (by unfold maxLen; omega) (by omega) hbase ?_); intro v5 w5 ho5 hb5)
                have hpt : PtOk w0 ⟨id, FA, k, fc, fs.take k⟩ ∧ PtFew ⟨id, FA, k, fc, fs.take k⟩ := by
                  have hlt : (fs.take k).length = k := by rw [List.length_take, HX.out.1]; omega
                  exact ⟨⟨hlt, by show k ≤ fc; omega, hcm, HX.out.2.1.takeFX k⟩, by show (fs.take k).length ≤ 40; rw [hlt]; omega, HT.out (by omega)⟩
                have ho6 : w5.ownsRow w.heap.size 37 2 v5 (i + 1) (pf (Q ++ [⟨id, FA, k, fc, fs.take k⟩])) := by
                  rw [pf_app]
                  exact ho5
                have H6 := Lib.hid (And.intro ho6 (And.intro hpt (HBW.out.1.trans hb5)))
                clear ho5 hb5 ho6 hpt hone
                first
                  | (go_round
                     case rel => exact ⟨i + 1, t, Q ++ [⟨id, FA, k, fc, fs.take k⟩], by first | rfl | go_num, rfl, by omega, by omega, by omega, Lib.hid ⟨by rw [List.length_append, HQ.out.1]; rfl, trivial⟩, Lib.hid H6.out.1, Lib.hid (fun y hy => by
                       rcases List.mem_append.1 hy with h | h
                       · exact HF.out y h
                       · simp at h; rw [h]; exact H6.out.2.1), Lib.hid H6.out.2.2⟩
                     case measure => simp [iOfI]; omega)
                  | exact ⟨⟨i + 1, t, Q ++ [⟨id, FA, k, fc, fs.take k⟩], by first | rfl | go_num, rfl, by omega, by omega, by omega, Lib.hid ⟨by rw [List.length_append, HQ.out.1]; rfl, trivial⟩, Lib.hid H6.out.1, Lib.hid (fun y hy => by
                       rcases List.mem_append.1 hy with h | h
                       · exact HF.out y h
                       · simp at h; rw [h]; exact H6.out.2.1), Lib.hid H6.out.2.2⟩, by simp [iOfI]; omega⟩
      · have h121 : ¬ ((i : Int) < 12) := by omega
        go_wp2_with fail
        go_ret
        exact HEND.out
    · have hin1 : ¬ ((i : Int) < (n : Int)) := by omega
      go_wp2_with fail
      go_ret
      exact HEND.out
end Go.Proofs.Ytnhbkfefpkocaaa
