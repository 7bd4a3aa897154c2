/-
  The walks of the texts, of Fixed and of Take: package enc and its reference.
-/
import Derived.Test.YtbgnbkomckbckaaEncE
namespace Go.Proofs.Ytbgnbkomckbckaa
open Go.RowKit

theorem takeNum_none (s : ByteArray) (w : World) (hsz : s.size ≤ 9223372036854775807) (h : takeN s.toList = none) :
    Calls Try.prog 32 #[.string s] w fun e w' => e = .returned (.tuple #[.int .i64 0, .string ⟨#[]⟩, .int .i64 2]) ∧ Below w.heap.size w w' :=
  (takeNum_any s w hsz).mono fun e w' ⟨he, hb⟩ => ⟨by rw [he]; unfold tkN tkR tkE; rw [h]; rfl, hb⟩
theorem takeNum_some (s : ByteArray) (w : World) (hsz : s.size ≤ 9223372036854775807) (n : Nat) (r : List UInt8) (h : takeN s.toList = some (n, r)) :
    Calls Try.prog 32 #[.string s] w fun e w' => e = .returned (.tuple #[.int .i64 n, .string (ofL r), .int .i64 0]) ∧ Below w.heap.size w w' :=
  (takeNum_any s w hsz).mono fun e w' ⟨he, hb⟩ => ⟨by rw [he]; unfold tkN tkR tkE; rw [h], hb⟩
theorem takeRef_none (s : ByteArray) (w : World) (hsz : s.size ≤ 9223372036854775807) (h : takeN s.toList = none) :
    Calls Try.prog 34 #[.string s] w fun e w' => e = .returned (.tuple #[.int .i64 0, .string ⟨#[]⟩, .int .i64 2]) ∧ Below w.heap.size w w' :=
  (takeRef_any s w hsz).mono fun e w' ⟨he, hb⟩ => ⟨by rw [he]; unfold tkN tkR tkE; rw [h]; rfl, hb⟩
theorem takeRef_some (s : ByteArray) (w : World) (hsz : s.size ≤ 9223372036854775807) (n : Nat) (r : List UInt8) (h : takeN s.toList = some (n, r)) :
    Calls Try.prog 34 #[.string s] w fun e w' => e = .returned (.tuple #[.int .i64 n, .string (ofL r), .int .i64 0]) ∧ Below w.heap.size w w' :=
  (takeRef_any s w hsz).mono fun e w' ⟨he, hb⟩ => ⟨by rw [he]; unfold tkN tkR tkE; rw [h], hb⟩

/-- One number laid. -/
theorem putNum_one (n : Int) (w : World) : Calls Try.prog 20 #[.slice (some ⟨w.heap.size, 0, none⟩) 1 1] (w.alloc (.cells #[.int .i64 n] 3)) fun e w' =>
    e = .returned (.string (ofL (putN (clampN n)))) ∧ Below w.heap.size w w' :=
  (putNum_any _ 1 1 [n] _ rfl (Rd.new1 _ _ _) (by omega)).mono fun e w' ⟨he, hb⟩ => ⟨by rw [he]; simp [putNums], below_of_alloc hb⟩

/-- A text, laid. -/
def putT (s : List UInt8) : List UInt8 := putN (clampN s.length) ++ s
def takeT (s : List UInt8) (most : Int) : List UInt8 × List UInt8 × Int :=
  match takeN s with
  | none => ([], [], 2)
  | some (n, r) => if most < n then ([], [], 3) else if r.length < n then ([], [], 2) else (r.take n, r.drop n, 0)
def TextEnd (s : List UInt8) (most : Int) (e : Ending) : Prop := e = .returned (.tuple #[.string (ofL (takeT s most).1), .string (ofL (takeT s most).2.1), .int .i64 (takeT s most).2.2])
theorem TextEnd.mk_ {s : List UInt8} {most : Int} {a b : ByteArray} {k : Int} (h : takeT s most = (a.toList, b.toList, k)) : TextEnd s most (.returned (.tuple #[.string a, .string b, .int .i64 k])) := by
  unfold TextEnd; rw [h]; simp only [ofL_toList]

set_option maxHeartbeats 400000 in
theorem putText_any (s : ByteArray) (w : World) (hs : s.size ≤ 4611686018427387904) :
    Calls Try.prog 21 #[.string s] w fun e w' => e = .returned (.string (ofL (putT s.toList))) ∧ Below w.heap.size w w' := by
  have h9 : (ofL (putN (clampN (s.size : Int)))).size ≤ 9 := by rw [size_ofL]; exact putN_length _
  go_enter Try.func21, Try.ntmps21
  go_wp2_with (go_at_call 20; refine (putNum_one _ _).mono ?_; rintro e w1 ⟨rfl, hb1⟩)
  go_ret
  exact ⟨ret_str (by rw [toList_app, toList_ofL, toList_ofL, putT, size_toList]), hb1⟩

set_option maxHeartbeats 400000 in
theorem putTextRef_any (s : ByteArray) (w : World) (hs : s.size ≤ 4611686018427387904) :
    Calls Try.prog 24 #[.string s] w fun e w' => e = .returned (.string (ofL (putT s.toList))) ∧ Below w.heap.size w w' := by
  have h9 : (ofL (putN (clampN (s.size : Int)))).size ≤ 9 := by rw [size_ofL]; exact putN_length _
  go_enter Try.func24, Try.ntmps24
  go_wp2_with (go_at_call 23; refine (put_any _ _).mono ?_; rintro e w1 ⟨rfl, hb1⟩)
  go_ret
  exact ⟨ret_str (by rw [toList_app, toList_ofL, toList_ofL, putT, size_toList]), hb1⟩

set_option maxHeartbeats 400000 in
theorem takeText_any (s : ByteArray) (most : Int) (w : World) (hs : s.size ≤ 9223372036854775807) :
    Calls Try.prog 33 #[.string s, .int .i64 most] w fun e w' => TextEnd s.toList most e ∧ Below w.heap.size w w' := by
  rcases h : takeN s.toList with _ | ⟨n, r⟩
  · have ht : takeT s.toList most = ([], [], 2) := by unfold takeT; rw [h]
    have Ht := Lib.hid ht
    have H := Lib.hid h
    clear ht h
    go_enter Try.func33, Try.ntmps33
    go_wp2_with (go_at_call 32; refine (takeNum_none _ _ hs H.out).mono ?_; rintro e w1 ⟨rfl, hb1⟩)
    go_ret3
    exact ⟨TextEnd.mk_ (by rw [toList_nil]; exact Ht.out), hb1⟩
  · have H := Lib.hid h
    by_cases h1 : most < (n : Int)
    · have ht : takeT s.toList most = ([], [], 3) := by unfold takeT; rw [h]; simp [h1]
      have Ht := Lib.hid ht
      clear ht h
      go_enter Try.func33, Try.ntmps33
      go_wp2_with (go_at_call 32; refine (takeNum_some _ _ hs _ _ H.out).mono ?_; rintro e w1 ⟨rfl, hb1⟩)
      go_ret3
      exact ⟨TextEnd.mk_ (by rw [toList_nil]; exact Ht.out), hb1⟩
    · by_cases h2 : r.length < n
      · have ht : takeT s.toList most = ([], [], 2) := by unfold takeT; rw [h]; simp [h1, h2]
        have Ht := Lib.hid ht
        have h2' : ((ofL r).size : Int) < (n : Int) := by rw [size_ofL]; omega
        clear ht h
        go_enter Try.func33, Try.ntmps33
        go_wp2_with (go_at_call 32; refine (takeNum_some _ _ hs _ _ H.out).mono ?_; rintro e w1 ⟨rfl, hb1⟩)
        go_ret3
        exact ⟨TextEnd.mk_ (by rw [toList_nil]; exact Ht.out), hb1⟩
      · have ht : takeT s.toList most = (r.take n, r.drop n, 0) := by unfold takeT; rw [h]; simp [h1, h2]
        have Ht := Lib.hid ht
        have h2' : (n : Int) ≤ ((ofL r).size : Int) := by rw [size_ofL]; omega
        clear ht h
        go_enter Try.func33, Try.ntmps33
        go_wp2_with (go_at_call 32; refine (takeNum_some _ _ hs _ _ H.out).mono ?_; rintro e w1 ⟨rfl, hb1⟩)
        go_quiet (fail)
        go_wp2
        go_ret3
        refine ⟨TextEnd.mk_ ?_, below_drewN hb1 _⟩
        rw [toList_pre, toList_suf, toList_ofL]
        exact Ht.out
set_option maxHeartbeats 400000 in
theorem takeTextRef_any (s : ByteArray) (most : Int) (w : World) (hs : s.size ≤ 9223372036854775807) :
    Calls Try.prog 35 #[.string s, .int .i64 most] w fun e w' => TextEnd s.toList most e ∧ Below w.heap.size w w' := by
  rcases h : takeN s.toList with _ | ⟨n, r⟩
  · have ht : takeT s.toList most = ([], [], 2) := by unfold takeT; rw [h]
    have Ht := Lib.hid ht
    have H := Lib.hid h
    clear ht h
    go_enter Try.func35, Try.ntmps35
    go_wp2_with (go_at_call 34; refine (takeRef_none _ _ hs H.out).mono ?_; rintro e w1 ⟨rfl, hb1⟩)
    go_ret3
    exact ⟨TextEnd.mk_ (by rw [toList_nil]; exact Ht.out), hb1⟩
  · have H := Lib.hid h
    by_cases h1 : most < (n : Int)
    · have ht : takeT s.toList most = ([], [], 3) := by unfold takeT; rw [h]; simp [h1]
      have Ht := Lib.hid ht
      clear ht h
      go_enter Try.func35, Try.ntmps35
      go_wp2_with (go_at_call 34; refine (takeRef_some _ _ hs _ _ H.out).mono ?_; rintro e w1 ⟨rfl, hb1⟩)
      go_ret3
      exact ⟨TextEnd.mk_ (by rw [toList_nil]; exact Ht.out), hb1⟩
    · by_cases h2 : r.length < n
      · have ht : takeT s.toList most = ([], [], 2) := by unfold takeT; rw [h]; simp [h1, h2]
        have Ht := Lib.hid ht
        have h2' : ((ofL r).size : Int) < (n : Int) := by rw [size_ofL]; omega
        clear ht h
        go_enter Try.func35, Try.ntmps35
        go_wp2_with (go_at_call 34; refine (takeRef_some _ _ hs _ _ H.out).mono ?_; rintro e w1 ⟨rfl, hb1⟩)
        go_ret3
        exact ⟨TextEnd.mk_ (by rw [toList_nil]; exact Ht.out), hb1⟩
      · have ht : takeT s.toList most = (r.take n, r.drop n, 0) := by unfold takeT; rw [h]; simp [h1, h2]
        have Ht := Lib.hid ht
        have h2' : (n : Int) ≤ ((ofL r).size : Int) := by rw [size_ofL]; omega
        clear ht h
        go_enter Try.func35, Try.ntmps35
        go_wp2_with (go_at_call 34; refine (takeRef_some _ _ hs _ _ H.out).mono ?_; rintro e w1 ⟨rfl, hb1⟩)
        go_quiet (fail)
        go_wp2
        go_ret3
        refine ⟨TextEnd.mk_ ?_, below_drewN hb1 _⟩
        rw [toList_pre, toList_suf, toList_ofL]
        exact Ht.out
end Go.Proofs.Ytbgnbkomckbckaa
