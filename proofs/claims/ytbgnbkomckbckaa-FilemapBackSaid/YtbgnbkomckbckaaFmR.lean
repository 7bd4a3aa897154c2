/-
  filemap.Put, the reference's Put.
-/
import Derived.Test.YtbgnbkomckbckaaFmQ
import Derived.Test.YtbgnbkomckbckaaFmO
import Derived.Test.YtbgnbkomckbckaaEncF
namespace Go.Proofs.Ytbgnbkomckbckaa
open Go.RowKit

/-- The bytes of files, in the order that they stand in. -/
def putL (l : List Fl) : List UInt8 := l.flatMap fun x => putT x.1.toList ++ putT x.2.toList
def putF (l : List Fl) : List UInt8 := putN (clampN (l.length : Int)) ++ putL (sortF l)
def putS (l : List Fl) : ByteArray := if checkF l = 0 then ofL (putF l) else ⟨#[]⟩
theorem putL_snoc (l : List Fl) (x : Fl) : putL (l ++ [x]) = putL l ++ (putT x.1.toList ++ putT x.2.toList) := by simp [putL]
theorem putT_len (s : ByteArray) : (putT s.toList).length ≤ s.size + 9 := by
  unfold putT
  rw [List.length_append, size_toList]
  have := putN_length (clampN (s.size : Int))
  omega
theorem putText_is (s t : ByteArray) (h : ofL (putT s.toList) = t) (w : World) (hs : s.size ≤ 4611686018427387904) :
    Calls Try.prog 21 #[.string s] w fun e w' => e = .returned (.string t) ∧ Below w.heap.size w w' := by subst h; exact putText_any s w hs
theorem putTextR_is (s t : ByteArray) (h : ofL (putT s.toList) = t) (w : World) (hs : s.size ≤ 4611686018427387904) :
    Calls Try.prog 24 #[.string s] w fun e w' => e = .returned (.string t) ∧ Below w.heap.size w w' := by subst h; exact putTextRef_any s w hs

set_option maxRecDepth 20000 in
set_option maxHeartbeats 8000000 in
theorem put_any' (l : List Fl) (A : Option Addr) (n c : Nat) (k : Int) (s : ByteArray) (hk : checkF l = k) (hs : putS l = s) (hn : l.length = n) (hc : n ≤ c) (hn70 : n ≤ 1000) (hsz : ∀ x ∈ l, x.1.size ≤ 100000000 ∧ x.2.size ≤ 100000000) (w : World) (hr : Rd w A (fl l)) :
    Calls Try.prog 10 #[.slice A n c] w fun e w' => e = .returned (.tuple #[.string s, .int .i64 k]) ∧ Below w.heap.size w w' := by
  have Hn := Lib.hid hn
  have HZ := Lib.hid hsz
  have HF := Lib.hid (fcheck_any l A n c k hk hn hc hn70 hsz)
  by_cases h0 : k = 0
  · have HS := Lib.hid (show ofL (putF l) = s by rw [← hs]; unfold putS; rw [if_pos (by rw [hk]; exact h0)])
    subst h0
    clear hs hk hsz
    obtain ⟨N0, hN0⟩ : ∃ N0, putN (clampN (n : Int)) = N0 := ⟨_, rfl⟩
    obtain ⟨s0, hs0⟩ : ∃ s0, ofL N0 = s0 := ⟨_, rfl⟩
    have hs0l : s0.toList = N0 := by rw [← hs0, toList_ofL]
    have hl0 : N0.length ≤ 9 := by rw [← hN0]; exact putN_length _
    have hs0z : s0.size ≤ 9 := by rw [← size_toList, hs0l]; exact hl0
    have HN0 := Lib.hid hN0
    have HS0 := Lib.hid hs0
    have HS0L := Lib.hid hs0l
    have HL0 := Lib.hid hl0
    have hcv := fun w => Go.Lib.run_convert_string_bytes (P := Try.prog) w 9 42 5 s0 Try.underlying9 Try.underlying42 Try.underlying5
    clear hN0 hs0 hs0l hl0 hn
    go_enter Try.func10, Try.ntmps10
    go_wp2_with fail
    (with_reducible refine (HF.out _ hr).mono ?_)
    rintro e w1 ⟨rfl, hb1⟩
    have hr1 := hr.below hb1
    clear hr
    go_wp2_with fail
    refine (putNum_one (n : Int) _).mono ?_
    rw [HN0.out, HS0.out]
    rintro e w2 ⟨rfl, hb2⟩
    have hr2 := hr1.below hb2
    have hb2' := bl hb1 hb2
    clear hr1 hb1 hb2
    have hO := OwnB.conv w2 5 s0 (by unfold maxLen; omega)
    have hbc := Go.Lib.bytesWorld_below w2 5 s0
    have hcv2 := hcv w2
    have hr3 := hr2.below hbc
    have hb3 := bl hb2' hbc
    have hz2 := hb2'.size
    rw [HS0L.out] at hO
    have hvo : (Value.slice (some ⟨w2.heap.size, 0, none⟩) s0.size (grownCap w2 s0.size 0 5)).ownBlock = some w2.heap.size := rfl
    have hws : (Go.Lib.bytesWorld w2 5 s0).heap.size = w2.heap.size + 1 := Go.Lib.bytesWorld_size w2 _ _
    clear hr2 hb2' hbc hcv
    generalize Value.slice (some ⟨w2.heap.size, 0, none⟩) s0.size (grownCap w2 s0.size 0 5) = v5 at *
    generalize Go.Lib.bytesWorld w2 5 s0 = w3 at *
    have hO' : OwnB w3 w.heap.size 5 v5 (N0 ++ putL ((sortF l).take 0)) := by
      obtain ⟨g, cap, cur, fz, e1, e2, e3⟩ := hO
      have e4 : N0 ++ putL ((sortF l).take 0) = N0 := by simp [putL]
      rw [e4]
      exact ⟨g, cap, cur, fz, e1, Nat.le_trans hz2 e2, e3⟩
    clear hO hz2
    go_wp2_with fail
    (with_reducible refine (sort_any l A n c Hn.out hn70 _ hr3).mono ?_)
    rintro e w4 ⟨v, rfl, B, cB, rfl, q1, q2, hrB, hBg, hb4⟩
    have hoff : OffV v5 B (fl (sortF l)) := fun hne ad hA => by
      obtain ⟨g, e1, e2, _⟩ := hBg (by intro e; rw [e] at hne; exact hne rfl)
      rw [hA] at e1
      cases e1
      rw [hvo]
      simp
      omega
    clear hBg hvo hws
    have hO4 := hO'.below' hb4
    have hb5 := bl hb3 hb4
    rw [(sortF_law l).2.2, Hn.out] at q1 ⊢
    have HSL := Lib.hid (show (sortF l).length = n by rw [(sortF_law l).2.2]; exact Hn.out)
    clear hO' hb3 hb4 hr3
    go_wp2_with fail
    go_loopw [5, 21] (fun v5 vj wr => ∃ (j : Nat) (v : Value) (L : List UInt8), vj = .int .i64 j ∧ v5 = v ∧ j ≤ n ∧ OwnB wr w.heap.size 5 v L ∧ Hid (L = N0 ++ putL ((sortF l).take j)) ∧ L.length ≤ 9 + j * 300000000 ∧ Rd wr B (fl (sortF l)) ∧ OffV v B (fl (sortF l)) ∧ Below w.heap.size w wr) (fun _ vj _ => n - (intOf vj).toNat)
    case atStart => exact ⟨0, _, _, rfl, rfl, by omega, hO4, Lib.hid rfl, by have := HL0.out; simp [putL]; omega, hrB, hoff, hb5⟩
    case round =>
      clear hO4 hrB hb5 hoff
      obtain ⟨j, v, L, rfl, rfl, hj, hO, hL, hLl, hrB, hoff, hb⟩ := hrel
      by_cases hlt : (j : Int) < (n : Int)
      · have hjl : j < (sortF l).length := by rw [HSL.out]; omega
        obtain ⟨x, hx⟩ : ∃ x, (sortF l)[j]? = some x := ⟨_, getD_some hjl⟩
        obtain ⟨b, o, rfl, q0, q1'⟩ := hrB.file hx
        have hxs := HZ.out x (sortF_mem.1 (List.mem_of_getElem? hx))
        obtain ⟨xp, xd⟩ := x
        rw [show (o + (j * 2 + 1) : Nat) = o + j * 2 + 1 by omega] at q1'
        have hxs1 : xp.size ≤ 100000000 := hxs.1
        have hxs2 : xd.size ≤ 100000000 := hxs.2
        have HX := Lib.hid hx
        obtain ⟨t1, ht1⟩ : ∃ t, ofL (putT xp.toList) = t := ⟨_, rfl⟩
        obtain ⟨t2, ht2⟩ : ∃ t, ofL (putT xd.toList) = t := ⟨_, rfl⟩
        have ht1l : t1.toList = putT xp.toList := by rw [← ht1, toList_ofL]
        have ht2l : t2.toList = putT xd.toList := by rw [← ht2, toList_ofL]
        have hz1 : t1.size ≤ 100000009 := by rw [← size_toList, ht1l]; have := putT_len xp; omega
        have hz2 : t2.size ≤ 100000009 := by rw [← size_toList, ht2l]; have := putT_len xd; omega
        have HT1 := Lib.hid ht1
        have HT2 := Lib.hid ht2
        have HTL := Lib.hid (And.intro ht1l ht2l)
        have hbb := hb.alloc hb.size (.cells #[.string xp, .string xd] 41)
        have hB := Bk.new wr 41 #[.string xp, .string xd]
        have hone := hO.ne
        have hbn := (Below.refl wr.heap.size wr).alloc (Nat.le_refl _) (.cells #[.string xp, .string xd] 41)
        have hr2 := hrB.below hbn
        have hO2 := hO.below' hbn
        clear hx hjl hxs hrB hO hb hbn ht1 ht2 ht1l ht2l
        go_wp2_with fail
        (with_reducible refine (putText_is xp t1 HT1.out _ (by omega)).mono ?_)
        rintro e w5 ⟨rfl, hb5⟩
        have hO5 := hO2.below' hb5
        have hr5 := hr2.below hb5
        have hB5 := hB.below' hb5
        have hbb5 := bl hbb hb5
        have hz5 := hbb5.size
        clear hO2 hr2 hB hbb hb5 q0 q1'
        go_upto_region 9 with (at_builtin; go_must (refine wpList_append_bytes rfl (.tmp 25) (.tmp 28) 42 9 rfl w.heap.size 5 el_byte Try.underlying9 (by kernel_rfl) _ _ rfl hO5 _ rfl (by omega) hz5 ?_); intro v6 w6 hO6 hb6 hg6 hk6)
        have hr6 := hr5.onlyV hg6 hoff
        have hoff6 := hoff.next hr5 hk6
        have hB6 := hB5.onlyV hg6 hone
        have hbb6 := hbb5.trans hb6
        have p1 := hB6.cell 1
        simp only [List.getElem?_toArray, List.getElem?_cons_succ, List.getElem?_cons_zero] at p1
        clear hO5 hr5 hB5 hbb5 hb6 hg6 hk6 hoff hone hz5
        go_wp2_with fail
        (with_reducible refine (putText_is xd t2 HT2.out _ (by omega)).mono ?_)
        rintro e w7 ⟨rfl, hb7⟩
        have hO7 := hO6.below' hb7
        have hr7 := hr6.below hb7
        have hbb7 := bl hbb6 hb7
        have hz7 := hbb7.size
        have hL7 : (L ++ t1.toList).length + t2.size ≤ 1000000000000 := by rw [List.length_append, size_toList]; omega
        clear hO6 hr6 hB6 hbb6 hb7 p1
        go_wp2_with (at_builtin; go_must (refine wpList_append_bytes rfl (.tmp 30) (.tmp 33) 42 9 rfl w.heap.size 5 el_byte Try.underlying9 (by kernel_rfl) _ _ rfl hO7 _ rfl hL7 hz7 ?_); intro v8 w8 hO8 hb8 hg8 hk8)
        have hr8 := hr7.onlyV hg8 hoff6
        have hoff8 := hoff6.next hr7 hk8
        have hbb8 := hbb7.trans hb8
        have HL8 := Lib.hid (show L ++ t1.toList ++ t2.toList = N0 ++ putL ((sortF l).take (j + 1)) by
          rw [hL.out, HTL.out.1, HTL.out.2, List.take_add_one, HX.out, Option.toList_some, putL_snoc]
          simp only [List.append_assoc])
        have hLl8 : (L ++ t1.toList ++ t2.toList).length ≤ 9 + (j + 1) * 300000000 := by
          simp only [List.length_append, size_toList]
          omega
        go_round
        case rel => exact ⟨j + 1, v8, _, by first | rfl | go_num, rfl, by omega, hO8, HL8, hLl8, hr8, hoff8, hbb8⟩
        case measure => simp [intOf]; omega
      · have hL2 : L = putF l := by
          rw [hL.out, List.take_of_length_le (by rw [HSL.out]; omega)]
          unfold putF
          rw [← HN0.out, Hn.out]
        have hcs := conv_ownB (P := Try.prog) hO 42 9 5 Try.underlying42 Try.underlying5 Try.underlying9
        rw [hL2, HS.out] at hcs
        clear hL2 hO hL
        go_wp2_with fail
        go_ret2
        exact ⟨rfl, hb⟩
  · have HS := Lib.hid (show s = ⟨#[]⟩ by rw [← hs]; unfold putS; rw [if_neg (by rw [hk]; exact h0)])
    have hk0 : (k == 0) = false := by simp [h0]
    clear hs hk hsz
    go_enter Try.func10, Try.ntmps10
    go_wp2_with fail
    (with_reducible refine (HF.out _ hr).mono ?_)
    rintro e w1 ⟨rfl, hb1⟩
    go_wp2_with fail
    go_ret2
    exact ⟨by rw [HS.out]; rfl, hb1⟩
end Go.Proofs.Ytbgnbkomckbckaa
