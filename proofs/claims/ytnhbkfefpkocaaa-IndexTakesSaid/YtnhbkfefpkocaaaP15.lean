/-
  The walks of sledgeref01.TakeNum and of the texts. The walks of the texts, of Fixed and of Take: package enc and its reference. Texts taken from bytes: plain facts.
-/
import Derived.Test.YtnhbkfefpkocaaaEncD
import Derived.Deep.RegionWith
namespace Go.Proofs.Ytnhbkfefpkocaaa
open Go.RowKit

theorem takeNum_any (s : ByteArray) (w : World) (hsz : s.size ≤ 9223372036854775807) :
    Calls Try.prog 71 #[.string s] w fun e w' => TakeEnd s.toList e ∧ Below w.heap.size w w' := by
  by_cases h0 : 0 < s.size
  · by_cases h1 : s[0].toNat < 248
    · exact takeNum_lo s w h0 h1
    · exact takeNum_hi s w h0 (by omega) hsz
  · exact takeNum_nil s w (by have := size_toList s; exact List.eq_nil_of_length_eq_zero (by omega))

theorem takeN_bad_put (b : UInt8) (t : List UInt8) (h1 : 248 ≤ b.toNat) (h2 : b.toNat < 255) (h : putN (num (t.take (b.toNat - 247))) ≠ b :: t.take (b.toNat - 247)) : takeN (b :: t) = none := by
  rw [takeN, if_neg (by omega), if_neg (by omega)]
  by_cases h3 : t.length < b.toNat - 247
  · rw [if_pos h3]
  · rw [if_neg h3, if_neg h]
theorem takeN_good_put (b : UInt8) (t : List UInt8) (h1 : 248 ≤ b.toNat) (h2 : b.toNat < 255) (h3 : b.toNat - 247 ≤ t.length) (h : putN (num (t.take (b.toNat - 247))) = b :: t.take (b.toNat - 247)) :
    takeN (b :: t) = some (num (t.take (b.toNat - 247)), t.drop (b.toNat - 247)) := by
  rw [takeN, if_neg (by omega), if_neg (by omega), if_neg (by omega), if_pos h]

set_option maxRecDepth 20000 in
set_option maxHeartbeats 1000000 in
theorem takeRef_any (s : ByteArray) (w : World) (hsz : s.size ≤ 9223372036854775807) :
    Calls Try.prog 50 #[.string s] w fun e w' => TakeEnd s.toList e ∧ Below w.heap.size w w' := by
  by_cases h0 : 0 < s.size
  · have hb0 := UInt8.toNat_lt s[0]
    have he0 : ((s.size : Int) == 0) = false := beq_eq_false_iff_ne.2 (by omega)
    obtain ⟨t, ht, htl⟩ := toList_of_size s h0
    have Ht := Lib.hid ht
    have Htl := Lib.hid htl
    clear ht htl
    by_cases h255 : s[0].toNat = 255
    · have h1 : ((s[0].toNat : Int) == 255) = true := beq_iff_eq.2 (by omega)
      have H255 := Lib.hid h255
      clear h255
      go_enter Try.func50, Try.ntmps50
      go_wp2
      go_ret3
      exact ⟨TakeEnd.bad (by rw [Ht.out]; exact takeN_short _ _ (by have := H255.out; omega) (.inl H255.out)), Below.refl _ _⟩
    · have h1 : ((s[0].toNat : Int) == 255) = false := beq_eq_false_iff_ne.2 (by omega)
      by_cases hlo : (s[0].toNat : Int) < 248
      · go_enter Try.func50, Try.ntmps50
        go_wp2
        go_quiet (fail)
        go_wp2
        go_ret3
        refine ⟨TakeEnd.good (n := s[0].toNat) (r := t) (by rw [Ht.out, takeN, if_pos (by omega)]) rfl ?_, below_drewN (Below.refl _ _) _⟩
        rw [toList_ext, Ht.out]
        simp only [List.drop_succ_cons, List.drop_zero]
        rw [List.take_of_length_le (by have := Htl.out; omega)]
      · have hlo' : (248 : Int) ≤ (s[0].toNat : Int) := by omega
        by_cases hsh : (s.size : Int) < (1 : Int) + ((s[0].toNat : Int) - (247 : Int))
        · have Hsh := Lib.hid (show t.length < s[0].toNat - 247 by have := Htl.out; omega)
          go_enter Try.func50, Try.ntmps50
          go_wp2
          go_ret3
          exact ⟨TakeEnd.bad (by rw [Ht.out]; exact takeN_short _ _ (by omega) (.inr Hsh.out)), Below.refl _ _⟩
        · have hN : wrap64 (num (s.extract 1 (1 + (s[0].toNat - 247))).toList) = (num (t.take (s[0].toNat - 247)) : Int) := by
            have e : (s.extract 1 (1 + (s[0].toNat - 247))).toList = t.take (s[0].toNat - 247) := by
              rw [toList_ext, Ht.out]
              simp only [List.drop_succ_cons, List.drop_zero]
              congr 1
              omega
            have := num_le7 (t.take (s[0].toNat - 247)) (by rw [List.length_take]; omega)
            rw [e, wrap64_id _ (by omega) (by omega)]
          have HN := Lib.hid hN
          clear hN
          have hcl : clampN (num (t.take (s[0].toNat - 247)) : Int) = num (t.take (s[0].toNat - 247)) := by
            have := num_le7 (t.take (s[0].toNat - 247)) (by rw [List.length_take]; omega)
            rw [clampN_mid _ (by omega) (by omega)]; omega
          have hex : (s.extract 0 (1 + (s[0].toNat - 247))).toList = s[0] :: t.take (s[0].toNat - 247) := by
            rw [toList_ext, Ht.out]
            have hl : ∀ m k, m = k + 1 → ((s[0] :: t).drop 0).take (m - 0) = s[0] :: t.take k := by
              intro m k hm
              subst hm
              simp
            exact hl _ _ (by omega)
          have Hcl := Lib.hid hcl
          have Hex := Lib.hid hex
          clear hcl hex
          go_enter Try.func50, Try.ntmps50
          go_wp2_with fail
          refine (number_any _ _ (by rw [← size_toList, toList_ext, List.length_take]; omega)).mono ?_
          rintro e w1 ⟨rfl, rfl⟩
          rw [HN.out]
          go_wp2_with fail
          have e1 : IntKind.i64.wrap ((1 : Int) + ((s[0].toNat : Int) - (247 : Int))) = (1 : Int) + ((s[0].toNat : Int) - (247 : Int)) := IntWalk.i64_in _ (by omega)
          have e2 : (0 : Int) ≤ IntKind.i64.wrap ((1 : Int) + ((s[0].toNat : Int) - (247 : Int))) := by rw [e1]; omega
          have e4 : IntKind.i64.wrap ((1 : Int) + ((s[0].toNat : Int) - (247 : Int))) ≤ (s.size : Int) := by rw [e1]; omega
          have e3 : (IntKind.i64.wrap ((1 : Int) + ((s[0].toNat : Int) - (247 : Int)))).toNat = 1 + (s[0].toNat - 247) := by rw [e1]; omega
          clear e1
          go_region_with (go_at_call 48; refine (put_any _ _).mono ?_; rintro e w1 ⟨rfl, hb1⟩)
          all_goals
            by_cases hput : putN (num (t.take (s[0].toNat - 247))) = s[0] :: t.take (s[0].toNat - 247)
            · have hne : ((ofL (putN (clampN (num (t.take (s[0].toNat - 247)) : Int)))).toList == (s.extract 0 (1 + (s[0].toNat - 247))).toList) = true := by
                rw [Hcl.out, toList_ofL, hput, Hex.out]; simp
              have Hput := Lib.hid hput
              clear hput
              rw [hne]
              go_wp2
              go_quiet (fail)
              go_wp2
              go_ret3
              have hsh' : s[0].toNat - 247 ≤ t.length := by have := Htl.out; omega
              refine ⟨TakeEnd.good (by rw [Ht.out]; exact takeN_good_put _ _ (by omega) (by omega) hsh' Hput.out) rfl ?_, below_drewN (below_of_drew hb1) _⟩
              rw [toList_ext, Ht.out]
              have hl : ∀ m k, m = k + 1 → ((s[0] :: t).drop m).take (s.size - m) = t.drop k := by
                intro m k hm
                subst hm
                rw [List.drop_succ_cons, List.take_of_length_le (by rw [List.length_drop]; have := Htl.out; omega)]
              exact hl _ _ (by omega)
            · have hne : ((ofL (putN (clampN (num (t.take (s[0].toNat - 247)) : Int)))).toList == (s.extract 0 (1 + (s[0].toNat - 247))).toList) = false := by
                rw [Hcl.out, toList_ofL, Hex.out]; simpa using hput
              have Hput := Lib.hid hput
              clear hput
              rw [hne]
              go_wp2
              go_ret3
              exact ⟨TakeEnd.bad (by rw [Ht.out]; exact takeN_bad_put _ _ (by omega) (by omega) Hput.out), below_of_drew hb1⟩
  · have he : s.toList = [] := by have := size_toList s; exact List.eq_nil_of_length_eq_zero (by omega)
    have he0 : ((s.size : Int) == 0) = true := beq_iff_eq.2 (by omega)
    have He := Lib.hid he
    clear he
    go_enter Try.func50, Try.ntmps50
    go_wp2
    go_ret3
    exact ⟨TakeEnd.bad (by rw [He.out]; rfl), Below.refl _ _⟩
end Go.Proofs.Ytnhbkfefpkocaaa
namespace Go.Proofs.Ytnhbkfefpkocaaa
open Go.RowKit

theorem takeNum_none (s : ByteArray) (w : World) (hsz : s.size ≤ 9223372036854775807) (h : takeN s.toList = none) :
    Calls Try.prog 71 #[.string s] w fun e w' => e = .returned (.tuple #[.int .i64 0, .string ⟨#[]⟩, .int .i64 2]) ∧ Below w.heap.size w w' :=
  (takeNum_any s w hsz).mono fun e w' ⟨he, hb⟩ => ⟨by rw [he]; unfold tkN tkR tkE; rw [h]; rfl, hb⟩
theorem takeNum_some (s : ByteArray) (w : World) (hsz : s.size ≤ 9223372036854775807) (n : Nat) (r : List UInt8) (h : takeN s.toList = some (n, r)) :
    Calls Try.prog 71 #[.string s] w fun e w' => e = .returned (.tuple #[.int .i64 n, .string (ofL r), .int .i64 0]) ∧ Below w.heap.size w w' :=
  (takeNum_any s w hsz).mono fun e w' ⟨he, hb⟩ => ⟨by rw [he]; unfold tkN tkR tkE; rw [h], hb⟩
theorem takeRef_none (s : ByteArray) (w : World) (hsz : s.size ≤ 9223372036854775807) (h : takeN s.toList = none) :
    Calls Try.prog 50 #[.string s] w fun e w' => e = .returned (.tuple #[.int .i64 0, .string ⟨#[]⟩, .int .i64 2]) ∧ Below w.heap.size w w' :=
  (takeRef_any s w hsz).mono fun e w' ⟨he, hb⟩ => ⟨by rw [he]; unfold tkN tkR tkE; rw [h]; rfl, hb⟩
theorem takeRef_some (s : ByteArray) (w : World) (hsz : s.size ≤ 9223372036854775807) (n : Nat) (r : List UInt8) (h : takeN s.toList = some (n, r)) :
    Calls Try.prog 50 #[.string s] w fun e w' => e = .returned (.tuple #[.int .i64 n, .string (ofL r), .int .i64 0]) ∧ Below w.heap.size w w' :=
  (takeRef_any s w hsz).mono fun e w' ⟨he, hb⟩ => ⟨by rw [he]; unfold tkN tkR tkE; rw [h], hb⟩

/-- One number laid. -/
theorem putNum_one (n : Int) (w : World) : Calls Try.prog 41 #[.slice (some ⟨w.heap.size, 0, none⟩) 1 1] (w.alloc (.cells #[.int .i64 n] 3)) fun e w' =>
    e = .returned (.string (ofL (putN (clampN n)))) ∧ Below w.heap.size w w' :=
  (putNum_any _ 1 1 [n] _ rfl (Rd.new1 _ _ _) (by omega)).mono fun e w' ⟨he, hb⟩ => ⟨by rw [he]; simp [putNums], below_of_alloc hb⟩

/-- A text, laid. -/
def putT (s : List UInt8) : List UInt8 := putN (clampN s.length) ++ s
def takeT (s : List UInt8) (most : Int) : List UInt8 × List UInt8 × Int :=
  match takeN s with
  | none => ([], [], 2)
  | some (n, r) => if most < n then ([], [], 3) else if r.length < n then ([], [], 2) else (r.take n, r.drop n, 0)
def TextEnd (s : List UInt8) (most : Int) (e : Ending) : Prop := e = .returned (.tuple #[.string (ofL (takeT s most).1), .string (ofL (takeT s most).2.1), .int .i64 (takeT s most).2.2])
theorem TextEnd.mk_ {s : List UInt8} {most : Int} {a b : ByteArray} {k : Int} (h : takeT s most = (a.toList, b.toList, k)) : TextEnd s most (.returned (.tuple #[.string a, .string b, .int .i64 k])) := by
  unfold TextEnd; rw [h]; simp only [ofL_toList]

set_option maxHeartbeats 400000 in
theorem putText_any (s : ByteArray) (w : World) (hs : s.size ≤ 4611686018427387904) :
    Calls Try.prog 42 #[.string s] w fun e w' => e = .returned (.string (ofL (putT s.toList))) ∧ Below w.heap.size w w' := by
  have h9 : (ofL (putN (clampN (s.size : Int)))).size ≤ 9 := by rw [size_ofL]; exact putN_length _
  go_enter Try.func42, Try.ntmps42
  go_wp2_with (go_at_call 41; refine (putNum_one _ _).mono ?_; rintro e w1 ⟨rfl, hb1⟩)
  go_ret
  exact ⟨ret_str (by rw [toList_app, toList_ofL, toList_ofL, putT, size_toList]), hb1⟩

set_option maxHeartbeats 400000 in
theorem putTextRef_any (s : ByteArray) (w : World) (hs : s.size ≤ 4611686018427387904) :
    Calls Try.prog 49 #[.string s] w fun e w' => e = .returned (.string (ofL (putT s.toList))) ∧ Below w.heap.size w w' := by
  have h9 : (ofL (putN (clampN (s.size : Int)))).size ≤ 9 := by rw [size_ofL]; exact putN_length _
  go_enter Try.func49, Try.ntmps49
  go_wp2_with (go_at_call 48; refine (put_any _ _).mono ?_; rintro e w1 ⟨rfl, hb1⟩)
  go_ret
  exact ⟨ret_str (by rw [toList_app, toList_ofL, toList_ofL, putT, size_toList]), hb1⟩

set_option maxHeartbeats 400000 in
theorem takeText_any (s : ByteArray) (most : Int) (w : World) (hs : s.size ≤ 9223372036854775807) :
    Calls Try.prog 72 #[.string s, .int .i64 most] w fun e w' => TextEnd s.toList most e ∧ Below w.heap.size w w' := by
  rcases h : takeN s.toList with _ | ⟨n, r⟩
  · have ht : takeT s.toList most = ([], [], 2) := by unfold takeT; rw [h]
    have Ht := Lib.hid ht
    have H := Lib.hid h
    clear ht h
    go_enter Try.func72, Try.ntmps72
    go_wp2_with (go_at_call 71; refine (takeNum_none _ _ hs H.out).mono ?_; rintro e w1 ⟨rfl, hb1⟩)
    go_ret3
    exact ⟨TextEnd.mk_ (by rw [toList_nil]; exact Ht.out), hb1⟩
  · have H := Lib.hid h
    by_cases h1 : most < (n : Int)
    · have ht : takeT s.toList most = ([], [], 3) := by unfold takeT; rw [h]; simp [h1]
      have Ht := Lib.hid ht
      clear ht h
      go_enter Try.func72, Try.ntmps72
      go_wp2_with (go_at_call 71; refine (takeNum_some _ _ hs _ _ H.out).mono ?_; rintro e w1 ⟨rfl, hb1⟩)
      go_ret3
      exact ⟨TextEnd.mk_ (by rw [toList_nil]; exact Ht.out), hb1⟩
    · by_cases h2 : r.length < n
      · have ht : takeT s.toList most = ([], [], 2) := by unfold takeT; rw [h]; simp [h1, h2]
        have Ht := Lib.hid ht
        have h2' : ((ofL r).size : Int) < (n : Int) := by rw [size_ofL]; omega
        clear ht h
        go_enter Try.func72, Try.ntmps72
        go_wp2_with (go_at_call 71; refine (takeNum_some _ _ hs _ _ H.out).mono ?_; rintro e w1 ⟨rfl, hb1⟩)
        go_ret3
        exact ⟨TextEnd.mk_ (by rw [toList_nil]; exact Ht.out), hb1⟩
      · have ht : takeT s.toList most = (r.take n, r.drop n, 0) := by unfold takeT; rw [h]; simp [h1, h2]
        have Ht := Lib.hid ht
        have h2' : (n : Int) ≤ ((ofL r).size : Int) := by rw [size_ofL]; omega
        clear ht h
        go_enter Try.func72, Try.ntmps72
        go_wp2_with (go_at_call 71; refine (takeNum_some _ _ hs _ _ H.out).mono ?_; rintro e w1 ⟨rfl, hb1⟩)
        go_quiet (fail)
        go_wp2
        go_ret3
        refine ⟨TextEnd.mk_ ?_, below_drewN hb1 _⟩
        rw [toList_pre, toList_suf, toList_ofL]
        exact Ht.out
set_option maxHeartbeats 400000 in
theorem takeTextRef_any (s : ByteArray) (most : Int) (w : World) (hs : s.size ≤ 9223372036854775807) :
    Calls Try.prog 77 #[.string s, .int .i64 most] w fun e w' => TextEnd s.toList most e ∧ Below w.heap.size w w' := by
  rcases h : takeN s.toList with _ | ⟨n, r⟩
  · have ht : takeT s.toList most = ([], [], 2) := by unfold takeT; rw [h]
    have Ht := Lib.hid ht
    have H := Lib.hid h
    clear ht h
    go_enter Try.func77, Try.ntmps77
    go_wp2_with (go_at_call 50; refine (takeRef_none _ _ hs H.out).mono ?_; rintro e w1 ⟨rfl, hb1⟩)
    go_ret3
    exact ⟨TextEnd.mk_ (by rw [toList_nil]; exact Ht.out), hb1⟩
  · have H := Lib.hid h
    by_cases h1 : most < (n : Int)
    · have ht : takeT s.toList most = ([], [], 3) := by unfold takeT; rw [h]; simp [h1]
      have Ht := Lib.hid ht
      clear ht h
      go_enter Try.func77, Try.ntmps77
      go_wp2_with (go_at_call 50; refine (takeRef_some _ _ hs _ _ H.out).mono ?_; rintro e w1 ⟨rfl, hb1⟩)
      go_ret3
      exact ⟨TextEnd.mk_ (by rw [toList_nil]; exact Ht.out), hb1⟩
    · by_cases h2 : r.length < n
      · have ht : takeT s.toList most = ([], [], 2) := by unfold takeT; rw [h]; simp [h1, h2]
        have Ht := Lib.hid ht
        have h2' : ((ofL r).size : Int) < (n : Int) := by rw [size_ofL]; omega
        clear ht h
        go_enter Try.func77, Try.ntmps77
        go_wp2_with (go_at_call 50; refine (takeRef_some _ _ hs _ _ H.out).mono ?_; rintro e w1 ⟨rfl, hb1⟩)
        go_ret3
        exact ⟨TextEnd.mk_ (by rw [toList_nil]; exact Ht.out), hb1⟩
      · have ht : takeT s.toList most = (r.take n, r.drop n, 0) := by unfold takeT; rw [h]; simp [h1, h2]
        have Ht := Lib.hid ht
        have h2' : (n : Int) ≤ ((ofL r).size : Int) := by rw [size_ofL]; omega
        clear ht h
        go_enter Try.func77, Try.ntmps77
        go_wp2_with (go_at_call 50; refine (takeRef_some _ _ hs _ _ H.out).mono ?_; rintro e w1 ⟨rfl, hb1⟩)
        go_quiet (fail)
        go_wp2
        go_ret3
        refine ⟨TextEnd.mk_ ?_, below_drewN hb1 _⟩
        rw [toList_pre, toList_suf, toList_ofL]
        exact Ht.out
end Go.Proofs.Ytnhbkfefpkocaaa
namespace Go.Proofs.Ytnhbkfefpkocaaa
open Go.RowKit

theorem takeT_code (s : List UInt8) (most : Int) : (takeT s most).2.2 = 0 ∨ (takeT s most).2.2 = 2 ∨ (takeT s most).2.2 = 3 := by
  unfold takeT
  cases takeN s with
  | none => simp
  | some x =>
    obtain ⟨n, r⟩ := x
    simp only
    split
    · simp
    · split <;> simp
theorem takeT_len (s : List UInt8) (most : Int) : (takeT s most).1.length ≤ s.length ∧ (takeT s most).2.1.length ≤ s.length := by
  unfold takeT
  cases h : takeN s with
  | none => simp
  | some x =>
    obtain ⟨n, r⟩ := x
    have hr := (takeN_some s n r h).1
    simp only
    split
    · simp
    · split
      · simp
      · simp only [List.length_take, List.length_drop]
        rw [hr, List.length_append]
        omega
/-- What is taken is what was put. -/
theorem takeT_put {s : List UInt8} {most : Int} (h : (takeT s most).2.2 = 0) : s = putT (takeT s most).1 ++ (takeT s most).2.1 := by
  unfold takeT at h ⊢
  cases hn : takeN s with
  | none => rw [hn] at h; simp at h
  | some x =>
    obtain ⟨n, r⟩ := x
    obtain ⟨e, hm⟩ := takeN_some s n r hn
    rw [hn] at h
    simp only at h ⊢
    split at h
    · simp at h
    · split at h
      · simp at h
      · rename_i h1 h2
        rw [if_neg h1, if_neg h2]
        unfold putT
        have hl : (r.take n).length = n := by rw [List.length_take]; omega
        rw [hl, show clampN (n : Int) = n by unfold clampN; omega, List.append_assoc, List.take_append_drop]
        exact e
theorem takeT_of (a r : List UInt8) (most : Int) (h : (a.length : Int) ≤ most) (hm : a.length ≤ 100000000) : takeT (putT a ++ r) most = (a, r, 0) := by
  unfold takeT putT
  have e : clampN (a.length : Int) = a.length := by unfold clampN; omega
  rw [List.append_assoc, takeN_put _ _ (clampN_le _), e]
  simp only
  rw [if_neg (by omega), if_neg (by rw [List.length_append]; omega), List.take_left, List.drop_left]
end Go.Proofs.Ytnhbkfefpkocaaa
