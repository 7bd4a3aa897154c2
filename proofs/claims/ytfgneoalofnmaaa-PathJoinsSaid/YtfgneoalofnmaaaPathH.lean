/-
  Joining parts: the plain law, and the walks of path.Join and the reference's Join.
-/
import Derived.Test.YtfgneoalofnmaaaPathG
import Derived.Test.YtfgneoalofnmaaaPathD
import Derived.Lib.Join
namespace Go.Proofs.Ytfgneoalofnmaaa
open Go.RowKit

/-- Texts as the cells of a slice. -/
def sv (xs : List ByteArray) : List Value := xs.map Value.string
theorem sv_length (xs : List ByteArray) : (sv xs).length = xs.length := by simp [sv]
theorem sv_snoc (xs : List ByteArray) (x : ByteArray) : sv xs ++ [Value.string x] = sv (xs ++ [x]) := by simp [sv]
theorem tv_sv (L : List (List UInt8)) : tv L = sv (L.map ofL) := by simp [tv, sv]
theorem tv_spl (s : ByteArray) : tv (spl s.toList) = sv (splB s) := tv_sv _
/-- Texts joined by slashes. -/
def jn (xs : List ByteArray) : List UInt8 := Lib.join (xs.map (·.toList)) [47]
theorem jn_nil : jn [] = [] := rfl
theorem jn_one (x : ByteArray) : jn [x] = x.toList := Lib.join_one _ _
theorem jn_app (y : ByteArray) (r b : List ByteArray) : jn (y :: r ++ b) = jn (y :: r) ++ Lib.joinTail [47] (b.map (·.toList)) := by
  unfold jn
  rw [List.cons_append, List.map_cons, List.map_cons, Lib.join_cons, Lib.join_cons, List.map_append]
  simp [Lib.joinTail]
theorem jn_snoc (xs : List ByteArray) (x : ByteArray) (h : xs ≠ []) : jn (xs ++ [x]) = jn xs ++ 47 :: x.toList := by
  cases xs with
  | nil => exact absurd rfl h
  | cons y r => rw [jn_app]; simp [Lib.joinTail]
theorem jn_le (a b : List ByteArray) : (jn a).length ≤ (jn (a ++ b)).length := by
  cases a with
  | nil => simp [jn_nil]
  | cons y r => rw [jn_app, List.length_append]; omega
theorem jn_take_le (xs : List ByteArray) (k : Nat) : (jn (xs.take k)).length ≤ (jn xs).length := by
  have := jn_le (xs.take k) (xs.drop k)
  rwa [List.take_append_drop] at this
theorem jn_data (xs : List ByteArray) : Lib.join (xs.map (·.data.toList)) [47] = jn xs := by
  unfold jn
  congr 1
  exact List.map_congr_left fun x _ => toList_data x

/-- Is there no slash? -/
def noSl (x : List UInt8) : Bool := decide (∀ c ∈ x, c ≠ 47)
theorem spl_len (p : List UInt8) : decide (1 < (spl p).length) = !noSl p := by
  rcases idx_cases p with ⟨_, h⟩ | ⟨i, _, _, h2, he⟩
  · rw [spl_none p h, show noSl p = true from decide_eq_true h]; rfl
  · have : (spl p).length = 1 + (spl (p.drop (i + 1))).length := by
      conv => lhs; rw [he, spl_some _ _ h2]
      simp; omega
    have h0 := List.length_pos_iff.2 (spl_ne (p.drop (i + 1)))
    rw [decide_eq_true (by omega), show noSl p = false from decide_eq_false (fun h => h 47 (by rw [he]; simp) rfl)]; rfl
theorem idx47 (p : List UInt8) : decide (0 ≤ Lib.indexByte p 47) = !noSl p := by
  rcases idx_cases p with ⟨h1, h⟩ | ⟨i, h1, _, h2, he⟩
  · rw [h1, show noSl p = true from decide_eq_true h]; rfl
  · rw [h1, decide_eq_true (by omega), show noSl p = false from decide_eq_false (fun h => h 47 (by rw [he]; simp) rfl)]; rfl
/-- May parts be joined? -/
def joinOk (xs : List ByteArray) : Bool := decide ((∀ x ∈ xs, noSl x.toList = true) ∧ pathOk (jn xs) = true)
def joinS (xs : List ByteArray) : ByteArray := if joinOk xs then ofL (jn xs) else ⟨#[]⟩
def joinE (xs : List ByteArray) : Int := if joinOk xs then 0 else 5
theorem join_bad {xs : List ByteArray} (h : ¬ ((∀ x ∈ xs, noSl x.toList = true) ∧ pathOk (jn xs) = true)) : joinS xs = ⟨#[]⟩ ∧ joinE xs = 5 := by
  unfold joinS joinE joinOk; rw [decide_eq_false h]; exact ⟨rfl, rfl⟩
theorem join_good {xs : List ByteArray} (h : (∀ x ∈ xs, noSl x.toList = true) ∧ pathOk (jn xs) = true) : joinS xs = ofL (jn xs) ∧ joinE xs = 0 := by
  unfold joinS joinE joinOk; rw [decide_eq_true h]; exact ⟨rfl, rfl⟩

theorem sjoin_any (A : Option Addr) (c : Nat) (xs : List ByteArray) (w : World) (hc : xs.length ≤ c) (hr : Rd w A (sv xs)) (hn : xs.length ≤ 1000000) (hz : (jn xs).length ≤ 1000000) :
    Calls Try.prog 25 #[.slice A xs.length c, .string ⟨#[47]⟩] w fun e w' => e = .returned (.string (ofL (jn xs))) ∧ Below w.heap.size w w' := by
  cases xs with
  | nil =>
    refine (Try.strings_Join_none A c ⟨#[47]⟩ w).mono ?_
    rintro e w' ⟨rfl, rfl⟩
    exact ⟨rfl, Below.refl _ _⟩
  | cons y r =>
    obtain ⟨b, o, rfl, hcell⟩ := hr (by simp [sv])
    have h47 : (⟨#[47]⟩ : ByteArray).data.toList = [47] := rfl
    have h := Try.strings_Join b o c (y :: r) ⟨#[47]⟩ w (fun j x hx => hcell j _ (by unfold sv; rw [List.getElem?_map, hx]; rfl)) (World.block_lt_of_cell? w _ (hcell 0 _ rfl)) (by omega) hc (by rw [h47, jn_data]; omega)
    rw [h47, jn_data] at h
    exact h

set_option maxRecDepth 20000 in
set_option maxHeartbeats 2000000 in
theorem join_any (A : Option Addr) (n c : Nat) (xs : List ByteArray) (w : World) (hx : xs.length = n) (hc : n ≤ c) (hr : Rd w A (sv xs)) (hn : n ≤ 1000000) (hz : (jn xs).length ≤ 1000000) :
    Calls Try.prog 16 #[.slice A n c] w fun e w' => e = .returned (.tuple #[.string (joinS xs), .int .i64 (joinE xs)]) ∧ Below w.heap.size w w' := by
  obtain ⟨S, hS⟩ : ∃ S, joinS xs = S := ⟨_, rfl⟩
  obtain ⟨E, hE⟩ : ∃ E, joinE xs = E := ⟨_, rfl⟩
  have HS := Lib.hid hS
  have HE := Lib.hid hE
  rw [hS, hE]
  clear hS hE
  have Hx := Lib.hid hx
  clear hx
  go_enter Try.func16, Try.ntmps16
  go_wp2_with fail
  go_loop [10] (fun i => ∃ k : Nat, k ≤ n ∧ i = .int .i64 k ∧ Hid (∀ x ∈ xs.take k, noSl x.toList = true)) (fun i => n - (intOf i).toNat)
  case atStart => exact ⟨0, by omega, rfl, Lib.hid (by simp)⟩
  case round =>
    obtain ⟨k, hk, rfl, hf⟩ := hrel
    by_cases hlt : k < n
    · have hkx : k < xs.length := by rw [Hx.out]; exact hlt
      obtain ⟨b, o, rfl, hcell⟩ := hr.at_ (by rw [sv_length]; exact hkx)
      obtain ⟨x, hx⟩ : ∃ x, xs[k] = x := ⟨_, rfl⟩
      have hcell' : w.cell? ⟨b, o + k, none⟩ = some (.string x) := by rw [hcell]; simp [sv, hx]
      have hmem : x ∈ xs := by rw [← hx]; exact List.getElem_mem _
      have hst : xs.take (k + 1) = xs.take k ++ [x] := by rw [List.take_succ_eq_append_getElem hkx, hx]
      have Hst := Lib.hid hst
      have Hmem := Lib.hid hmem
      clear hcell hx hst hmem hkx
      cases ho : noSl x.toList with
      | true =>
        have H := Lib.hid (show ∀ y ∈ xs.take (k + 1), noSl y.toList = true by
          rw [Hst.out]
          intro y hy
          rcases List.mem_append.1 hy with h | h
          · exact hf.out y h
          · simp at h; subst h; exact ho)
        have hi := idx47 x.toList
        rw [ho] at hi
        have Hi := Lib.hid hi
        clear ho hi
        go_wp2_with (go_at_call 21; refine (Try.strings_Contains_one x 47 _).mono ?_; rintro e w' ⟨rfl, rfl⟩; rw [toList_data, Hi.out])
        go_round
        case rel => exact ⟨k + 1, by omega, by go_num, H⟩
        case measure => simp [intOf]; omega
      | false =>
        obtain ⟨e1, e2⟩ := join_bad (xs := xs) (fun h => by have := h.1 x Hmem.out; rw [ho] at this; cases this)
        rw [HS.out] at e1
        rw [HE.out] at e2
        have hi := idx47 x.toList
        rw [ho] at hi
        have Hi := Lib.hid hi
        clear ho hi
        subst e1
        subst e2
        clear HS HE
        go_wp2_with (go_at_call 21; refine (Try.strings_Contains_one x 47 _).mono ?_; rintro e w' ⟨rfl, rfl⟩; rw [toList_data, Hi.out])
        go_ret2
        exact ⟨rfl, Below.refl _ _⟩
    · obtain rfl : k = n := by omega
      have Hall := Lib.hid (show ∀ x ∈ xs, noSl x.toList = true by
        have := hf.out
        rwa [List.take_of_length_le (by rw [Hx.out]; omega)] at this)
      clear hf
      obtain rfl := Hx.out
      have HJ := Lib.hid (show okP (ofL (jn xs)) = E by
        rw [← HE.out]; unfold okP joinE joinOk
        rw [toList_ofL]
        cases hp : pathOk (jn xs) with
        | true => rw [decide_eq_true ⟨Hall.out, rfl⟩]
        | false => rw [decide_eq_false (fun h => by cases h.2)])
      go_wp2_with fail
      (with_reducible refine (sjoin_any A c xs _ hc hr hn hz).mono ?_)
      rintro e w1 ⟨rfl, hb1⟩
      have hsz : (ofL (jn xs)).size ≤ 9223372036854775807 := by rw [size_ofL]; omega
      by_cases h0 : pathOk (jn xs) = true
      · obtain ⟨e1, e2⟩ := join_good ⟨Hall.out, h0⟩
        rw [HS.out] at e1
        rw [HE.out] at e2
        clear h0
        subst e2
        have He := Lib.hid e1
        rw [← e1] at HJ hsz ⊢
        clear e1 HS HE
        go_wp2_with fail
        (with_reducible refine (check_k S 0 HJ.out hsz _).mono ?_)
        rintro e w2 ⟨rfl, hb2⟩
        go_wp2_with fail
        go_ret2
        exact ⟨rfl, bl hb1 hb2⟩
      · obtain ⟨e1, e2⟩ := join_bad (xs := xs) (fun h => h0 h.2)
        rw [HS.out] at e1
        rw [HE.out] at e2
        clear h0
        subst e1
        subst e2
        clear HS HE
        generalize ofL (jn xs) = S at *
        go_wp2_with fail
        (with_reducible refine (check_k S 5 HJ.out hsz _).mono ?_)
        rintro e w2 ⟨rfl, hb2⟩
        go_wp2_with fail
        go_ret2
        exact ⟨rfl, bl hb1 hb2⟩
end Go.Proofs.Ytfgneoalofnmaaa
