/-
  The reference's With.
-/
import Derived.Test.YtnhbkfefpkocaaaP10
import Derived.Test.YtnhbkfefpkocaaaP2
import Derived.Test.YtnhbkfefpkocaaaP12
namespace Go.Proofs.Ytnhbkfefpkocaaa
open Go.RowKit Go.Sort

theorem mayX_is (p : ByteArray) (b : Bool) (h : okP p = if b then 0 else 5) (w : World) (hs : p.size ≤ 100000000) :
    Calls Try.prog 52 #[.string p] w fun e w' => e = .returned (.bool b) ∧ Below w.heap.size w w' := by
  have hb : pathOk p.toList = b := by
    unfold okP at h
    cases b <;> cases hp : pathOk p.toList <;> rw [hp] at h <;> simp at h <;> rfl
  have := may_any p w hs
  rw [hb] at this
  exact this
theorem okP_twoX (p : ByteArray) : okP p = 0 ∨ okP p = 5 := by unfold okP; split <;> simp
theorem rsum_is (s sm : ByteArray) (h : ofL (shaW s.toList) = sm) (w : World) (hs : s.size ≤ 1000000000) :
    Calls Try.prog 60 #[.string s] w fun e w' => e = .returned (.string sm) ∧ Below w.heap.size w w' := by subst h; exact rsum_any s hs w
theorem putI_mem (x : It) (L : List It) (hS : SrtI L) : ∀ y ∈ putI L x, y ∈ L ∨ y = x := by
  obtain ⟨A, B, hL, _, hA, h⟩ := putI_split x L hS
  intro y hy
  rcases h with ⟨_, z, B', rfl, _, _, _, _, hput⟩ | ⟨_, _, hput⟩
  · rw [hput] at hy
    rw [hL]
    rcases List.mem_append.1 hy with h | h
    · left; simp [h]
    · rcases List.mem_cons.1 h with h | h
      · split at h
        · right; exact h
        · left; simp [h]
      · left; simp [h]
  · rw [hput] at hy
    rw [hL]
    rcases List.mem_append.1 hy with h | h
    · left; simp [h]
    · rcases List.mem_cons.1 h with h | h
      · right; exact h
      · left; simp [h]
/-- Behind the reference's With. -/
def RWithEnd (A0 : Option Addr) (w : World) (r : List It × Int) (e : Ending) (w' : World) : Prop :=
  ∃ A c, e = .returned (.tuple #[.slice A r.1.length c, .int .i64 r.2]) ∧ r.1.length ≤ c ∧ c ≤ maxLen ∧ Rd w' A (itf r.1) ∧ (A = A0 ∨ ∀ ad, A = some ad → w.heap.size ≤ ad.block) ∧ Below w.heap.size w w'
theorem fresh_up {a b : Nat} {A : Option Addr} (h : ∀ ad, A = some ad → b ≤ ad.block) (hab : a ≤ b) : ∀ ad, A = some ad → a ≤ ad.block := fun ad hA => Nat.le_trans hab (h ad hA)
theorem rput_is (l : List It) (A : Option Addr) (n c : Nat) (hn : l.length = n) (hl : n ≤ 1000000) (hz : ∀ y ∈ l, y.p.size ≤ 100000000) (hS : SrtI l) (x : It) (hx : x.p.size ≤ 100000000) (L2 : List It) (h2 : putI l x = L2) (w : World) (hr : Rd w A (itf l)) :
    Calls Try.prog 59 #[.slice A n c, .agg #[.string x.p, .int .i64 x.id, .int .i64 x.sz, .string x.sm]] w fun e w' => RetS w L2.length (itf L2) e w' := by
  have := rput_any l A n c hn hl hz x hx w hr
  rw [putR_eq x l hS, h2] at this
  exact this

set_option maxRecDepth 20000 in
set_option maxHeartbeats 4000000 in
theorem rwith_any (L0 : List It) (A : Option Addr) (n c : Nat) (hn : L0.length = n) (hl : n ≤ 500000) (hS : SrtI L0) (hz0 : ∀ y ∈ L0, y.p.size ≤ 100000000) (hnc : n ≤ c) (hcm : c ≤ maxLen) (id : Int) (fs : List Fl) (FA : Option Addr) (fn fc : Nat) (hfn : fs.length = fn) (hfl : fn ≤ 400000) (hfz : ∀ f ∈ fs, f.1.size ≤ 100000000 ∧ f.2.size ≤ 1000000000) (w : World) (hr : Rd w A (itf L0)) (hf : Rd w FA (fl fs)) :
    Calls Try.prog 31 #[.slice A n c, .int .i64 id, .slice FA fn fc] w (RWithEnd A w (withI L0 id fs)) := by
  have HS := Lib.hid (And.intro hS hz0)
  have HN := Lib.hid (And.intro hn trivial)
  have HFN := Lib.hid (And.intro hfn trivial)
  have HFZ := Lib.hid hfz
  have HF := Lib.hid hf
  by_cases hid : id < 1 ∨ 4294967295 < id
  · have hW : withI L0 id fs = ([], 1) := by unfold withI; rw [if_pos hid]
    have HW := Lib.hid (And.intro hW trivial)
    clear hW hn hfn hfz hS hz0 hr hf
    by_cases hid1 : id < 1
    · go_enter Try.func31, Try.ntmps31
      go_wp2_with fail
      go_ret2
      rw [HW.out.1]
      exact ⟨none, 0, rfl, by simp, by unfold maxLen; omega, Rd.nil _ _, .inr (fun ad h => by cases h), Below.refl _ _⟩
    · have hid2 : 4294967295 < id := by omega
      go_enter Try.func31, Try.ntmps31
      go_wp2_with fail
      go_ret2
      rw [HW.out.1]
      exact ⟨none, 0, rfl, by simp, by unfold maxLen; omega, Rd.nil _ _, .inr (fun ad h => by cases h), Below.refl _ _⟩
  · have hid1 : ¬ id < 1 := by omega
    have hid2 : ¬ 4294967295 < id := by omega
    have hW : withI L0 id fs = withL id fs L0 := by unfold withI; rw [if_neg hid]
    have HW := Lib.hid (And.intro hW trivial)
    have HR := Lib.hid hr
    clear hid hW hn hfn hfz hS hz0 hr hf
    go_enter Try.func31, Try.ntmps31
    go_wp2_with fail
    go_loopw [0, 8] (fun vl vk wr => ∃ (k : Nat) (L : List It) (A' : Option Addr) (m c' : Nat), vk = .int .i64 (k : Nat) ∧ k ≤ fn ∧ vl = .slice A' m c' ∧ m ≤ c' ∧ c' ≤ maxLen ∧ m ≤ n + k ∧ Hid (L.length = m ∧ True) ∧ Hid (SrtI L ∧ ∀ y ∈ L, y.p.size ≤ 100000000) ∧ Hid (Rd wr A' (itf L) ∧ (A' = A ∨ ∀ ad, A' = some ad → w.heap.size ≤ ad.block)) ∧ Hid (Below w.heap.size w wr) ∧ Hid (withL id fs L0 = withL id (fs.drop k) L ∧ True)) (fun _ vk _ => fn - iOfI vk)
    case atStart => exact ⟨0, L0, A, n, c, rfl, by omega, rfl, hnc, hcm, by omega, HN, HS, Lib.hid ⟨HR.out, .inl rfl⟩, Lib.hid (Below.refl _ _), Lib.hid ⟨rfl, trivial⟩⟩
    case round =>
      clear HR HS HN
      obtain ⟨k, L, A', m, c', rfl, hk, rfl, hmc, hcm', hmk, HLM, HSL, HR, HB, HE⟩ := hrel
      by_cases hkl : k < fn
      · have hkl1 : (k : Int) < (fn : Int) := by omega
        obtain ⟨f, hf⟩ : ∃ f, fs[k]? = some f := ⟨_, List.getElem?_eq_getElem (by rw [HFN.out.1]; exact hkl)⟩
        obtain ⟨fb, fo, rfl, q0, q1⟩ := (HF.out.below HB.out).fileX hf
        obtain ⟨fp, fd⟩ := f
        have hfzk : fp.size ≤ 100000000 ∧ fd.size ≤ 1000000000 := HFZ.out (fp, fd) (List.mem_of_getElem? hf)
        have HFI := Lib.hid (And.intro hf hfzk)
        have hblt := World.block_lt_of_cell? wr _ q0
        simp only at hblt
        have hok := okP_twoX fp
        obtain ⟨e, he⟩ : ∃ e, okP fp = e := ⟨_, rfl⟩
        rw [he] at hok
        have HOK := Lib.hid (And.intro he trivial)
        clear hf he
        rcases hok with rfl | rfl
        · obtain ⟨sm, hsm⟩ : ∃ sm, ofL (shaW fd.toList) = sm := ⟨_, rfl⟩
          obtain ⟨it, hit⟩ : ∃ it, itOf id (fp, fd) = it := ⟨_, rfl⟩
          have hit2 : it = ⟨fp, id, (fd.size : Nat), sm⟩ := by rw [← hit, ← hsm]; rfl
          have HSM := Lib.hid (And.intro hsm (And.intro hit hit2))
          clear hsm hit hit2
          go_wp2_with fail
          refine (mayX_is fp true (by rw [HOK.out.1]; rfl) wr hfzk.1).mono ?_
          rintro e w3 ⟨rfl, hb3⟩
          have q0' := (hb3.cell hblt).trans q0
          have q1' := (hb3.cell hblt).trans q1
          have hbl3 := Nat.lt_of_lt_of_le hblt hb3.size
          have HB3 := Lib.hid (And.intro (bl HB.out hb3) (HR.out.1.below hb3))
          have HS0 : Hid (∀ w', Below w3.heap.size w3 w' → Below w3.heap.size w3 w' ∧ w'.cell? ⟨fb, fo + k * 2, none⟩ = some (.string fp) ∧ w'.cell? ⟨fb, fo + k * 2 + 1, none⟩ = some (.string fd)) := Lib.hid fun w' h => ⟨h, (h.cell hbl3).trans q0', (h.cell hbl3).trans q1'⟩
          have HST := Lib.hid (And.intro (putI_srt it L HSL.out.1) (And.intro (putI_len it L HSL.out.1) (And.intro (withL_step id fs k (fp, fd) L HFI.out.1 HOK.out.1) (putI_mem it L HSL.out.1))))
          obtain ⟨L2, hL2⟩ : ∃ L2, putI L it = L2 := ⟨_, rfl⟩
          rw [HSM.out.2.1, hL2] at HST
          have HL2 := Lib.hid (And.intro hL2 trivial)
          have hp1 : it.p = fp := by rw [HSM.out.2.2]
          have hitz : it.p.size ≤ 100000000 := by rw [hp1]; exact hfzk.1
          have HPT := Lib.hid (fun (w' : World) (hw : Below w3.heap.size w3 w') => rput_is L A' m c' HLM.out.1 (by omega) HSL.out.2 HSL.out.1 it hitz L2 HL2.out.1 w' (HB3.out.2.below hw))
          rw [HSM.out.2.2] at HPT
          clear hb3 hL2 q0 q1 q0' q1' hblt hbl3 hp1
          go_wp2_with fail
          go_region_held3 (fun w' => Below w3.heap.size w3 w' ∧ w'.cell? ⟨fb, fo + k * 2, none⟩ = some (.string fp) ∧ w'.cell? ⟨fb, fo + k * 2 + 1, none⟩ = some (.string fd))
            (first | with_reducible exact HS0.out _ (ka w3) | with_reducible exact HS0.out _ hX | with_reducible exact HS0.out _ hX2)
            (first
              | (go_at_call 60; (with_reducible refine (rsum_is fd sm HSM.out.1 _ hfzk.2).mono ?_); rintro e w4 ⟨rfl, hb4⟩; have hX := below_of_drew hb4)
              | (go_at_call 59; (with_reducible refine (HPT.out _ hX).mono ?_); rintro e w5 ⟨A5, c5, rfl, hn5, hm5, hr5, hf5, hb5⟩; have hf5' := fresh_up hf5 (bl HB3.out.1 hX).size; have hX2 := bl hX hb5))
          all_goals
            have HX2 := Lib.hid (And.intro (And.intro hr5 hf5') (bl HB3.out.1 hX2))
            obtain ⟨m5, hm5e⟩ : ∃ m5, L2.length = m5 := ⟨_, rfl⟩
            rw [hm5e] at hn5 ⊢
            have hm5k : m5 ≤ m + 1 := by have := HST.out.2.1; rw [HLM.out.1, hm5e] at this; exact this
            have HM5 := Lib.hid (And.intro hm5e trivial)
            clear hr5 hf5 hf5' hX hX2 hb4 hb5 hm5e
            go_wp2_with fail
            go_round
            case rel => exact ⟨k + 1, L2, A5, m5, c5, by first | rfl | go_num, by omega, rfl, hn5, hm5, by omega, HM5, Lib.hid ⟨HST.out.1, fun y hy => by
              rcases HST.out.2.2.2 y hy with h | h
              · exact HSL.out.2 y h
              · rw [h]; exact hitz⟩, Lib.hid ⟨HX2.out.1.1, .inr HX2.out.1.2⟩, Lib.hid HX2.out.2, Lib.hid ⟨by rw [HE.out.1, HST.out.2.2.1], trivial⟩⟩
            case measure => simp [iOfI]; omega
        · have hbad : withI L0 id fs = ([], 5) := by
            rw [HW.out.1, HE.out.1, withL_bad id fs k (fp, fd) L HFI.out.1 (by rw [HOK.out.1]; omega), HOK.out.1]
          have HBD := Lib.hid (And.intro hbad trivial)
          clear hbad
          go_wp2_with fail
          refine (mayX_is fp false (by rw [HOK.out.1]; rfl) wr hfzk.1).mono ?_
          rintro e w3 ⟨rfl, hb3⟩
          have HB3 := Lib.hid (bl HB.out hb3)
          clear hb3
          go_wp2_with fail
          go_ret2
          rw [HBD.out.1]
          exact ⟨none, 0, rfl, by simp, by unfold maxLen; omega, Rd.nil _ _, .inr (fun ad h => by cases h), HB3.out⟩
      · obtain rfl : k = fn := by omega
        have hend : withI L0 id fs = if 512 < m then ([], 3) else (L, 0) := by
          rw [HW.out.1, HE.out.1, List.drop_of_length_le (by rw [HFN.out.1]; exact Nat.le_refl _), withL, HLM.out.1]
        have HEN := Lib.hid (And.intro hend trivial)
        clear hend
        by_cases h512 : 512 < m
        · have h1 : (512 : Int) < (m : Int) := by omega
          go_wp2_with fail
          go_ret2
          rw [HEN.out.1, if_pos h512]
          exact ⟨none, 0, rfl, by simp, by unfold maxLen; omega, Rd.nil _ _, .inr (fun ad h => by cases h), HB.out⟩
        · have h1 : ¬ ((512 : Int) < (m : Int)) := by omega
          go_wp2_with fail
          go_ret2
          rw [HEN.out.1, if_neg h512]
          exact ⟨A', c', by rw [HLM.out.1]; rfl, by rw [HLM.out.1]; exact hmc, hcm', HR.out.1, HR.out.2, HB.out⟩
end Go.Proofs.Ytnhbkfefpkocaaa
