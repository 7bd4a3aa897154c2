/-
  index.Without; the reference's Without.
-/
import Derived.Test.YtnhbkfefpkocaaaIxO
namespace Go.Proofs.Ytnhbkfefpkocaaa
open Go.RowKit Go.Sort

theorem delF_is (L L2 : List It) (v : Value) (n base : Nat) (hn : L.length = n) (hl : n ≤ 1000000) (id : Int) (h2 : woI id L = L2) (ib : Nat) (w : World) (hbase : base ≤ w.heap.size) (ho : w.ownsRow base 46 4 v n (itf L)) (hid : w.cell? ⟨ib, 0, none⟩ = some (.int .i64 id)) (hib : ib < base) :
    Calls Try.prog 33 #[v, .func (.func 35) #[] #[.pointer (some ⟨ib, 0, none⟩)]] w (DelEnd w base L2) := by
  subst h2
  exact delF_any L v n base hn hl id ib w hbase ho hid hib

set_option maxRecDepth 20000 in
set_option maxHeartbeats 2000000 in
theorem without_any (L : List It) (A : Option Addr) (n c : Nat) (hn : L.length = n) (hl : n ≤ 1000000) (id : Int) (w : World) (hr : Rd w A (itf L)) :
    Calls Try.prog 10 #[.agg #[.slice A n c], .int .i64 id] w fun e w' => ∃ v, e = .returned (.agg #[v]) ∧ SlF w w' v (woI id L) ∧ Below w.heap.size w w' := by
  have HN := Lib.hid (And.intro hn trivial)
  obtain ⟨L2, hL2⟩ : ∃ L2, woI id L = L2 := ⟨_, rfl⟩
  have HR := Lib.hid (And.intro hr hL2)
  rw [hL2]
  clear hn hr hL2
  obtain ⟨w0, hw0⟩ : ∃ w0, ((w.alloc (.cells #[.slice A n c] 25)).alloc (.cells #[.int .i64 id] 3)).alloc (.cells #[.slice none 0 0] 25) = w0 := ⟨_, rfl⟩
  have hs0 : w0.heap.size = w.heap.size + 3 := by rw [← hw0]; simp
  have hb0 : Below w.heap.size w w0 := by rw [← hw0]; exact (((Below.refl _ w).alloc (Nat.le_refl _) _).alloc (by simp only [World.size_alloc]; omega) _).alloc (by simp only [World.size_alloc]; omega) _
  have hk1 : Bk w0 (w.heap.size + 1) 3 #[.int .i64 id] := by
    rw [← hw0]
    have := (Bk.new (w.alloc (.cells #[.slice A n c] 25)) 3 #[.int .i64 id]).alloc (.cells #[.slice none 0 0] 25)
    rwa [World.size_alloc] at this
  have hk2 : Bk w0 (w.heap.size + 2) 25 #[.slice none 0 0] := by
    rw [← hw0]
    have := Bk.new ((w.alloc (.cells #[.slice A n c] 25)).alloc (.cells #[.int .i64 id] 3)) 25 #[.slice none 0 0]
    rwa [World.size_alloc, World.size_alloc] at this
  have HW := Lib.hid (And.intro hs0 (And.intro hb0 (And.intro hk1 hk2)))
  have HW0 := Lib.hid hw0
  clear hs0 hb0 hk1 hk2 hw0
  go_enter Try.func10, Try.ntmps10
  go_wp2_with fail
  rw [HW0.out]
  clear HW0
  refine (cloneI_any L A n c HN.out.1 hl w0 (HR.out.1.below HW.out.2.1)).mono ?_
  rintro e w3 ⟨v3, rfl, ho3, hb3⟩
  have i3 := (HW.out.2.2.1.below' hb3).cell_ 0 (.int .i64 id) rfl
  have HD := Lib.hid (delF_is L L2 v3 n w0.heap.size HN.out.1 hl id HR.out.2 (w.heap.size + 1) w3 hb3.size (by rw [← HN.out.1]; exact ho3) i3 (by have := HW.out.1; omega))
  have HB3 := Lib.hid (And.intro hb3 (HW.out.2.2.2.below' hb3))
  clear ho3 hb3 i3
  go_wp2_with (go_at_call 33; refine HD.out.mono ?_; rintro e w4 ⟨B, d, rfl, hn4, hm4, hr4, hf4, hb4⟩; have hk4 := HW.out.2.2.2.below' (HB3.out.1.trans hb4); have r0 := hk4.cell_ 0 (.slice none 0 0) rfl; have f0 := hk4.frozen 0)
  have hcc := World.cell?_setCell_same w4 ⟨w.heap.size + 2, 0, none⟩ (.slice B L2.length d) r0
  refine bodyPost_ret (v := .agg #[.slice B L2.length d]) (by simp [results, Try.results10, go_sem, hcc]) rfl ?_
  have hb5 := HW.out.2.1.trans ((HB3.out.1.trans hb4).mono (by have := HW.out.1; omega))
  exact ⟨_, rfl, ⟨B, d, rfl, hn4, hm4, hr4.only (only_set w4 (w.heap.size + 2) 0 _) (Off.fresh hf4 (by have := HW.out.1; omega)), fun ad hA => by have := hf4 ad hA; have := HW.out.1; omega⟩, hb5.setCell (p := ⟨w.heap.size + 2, 0, none⟩) (by simp) _⟩

set_option maxRecDepth 20000 in
set_option maxHeartbeats 2000000 in
theorem rwithout_any (L : List It) (A : Option Addr) (n c : Nat) (hn : L.length = n) (hl : n ≤ 1000000) (id : Int) (w : World) (hr : Rd w A (itf L)) :
    Calls Try.prog 13 #[.slice A n c, .int .i64 id] w fun e w' => ∃ B d, e = .returned (.slice B (woI id L).length d) ∧ (woI id L).length ≤ d ∧ d ≤ maxLen ∧ Rd w' B (itf (woI id L)) ∧ Below w.heap.size w w' := by
  have HN := Lib.hid (And.intro hn trivial)
  have HR := Lib.hid hr
  clear hn hr
  go_enter Try.func13, Try.ntmps13
  go_wp2_with fail
  go_loopw [5, 6] (fun vo vi wr => ∃ (i k : Nat), vi = .int .i64 (i : Nat) ∧ i ≤ n ∧ k ≤ i ∧ Hid ((woI id (L.take i)).length = k ∧ True) ∧ Hid (wr.ownsRow w.heap.size 46 4 vo k (itf (woI id (L.take i)))) ∧ Hid (Below w.heap.size w wr)) (fun _ vi _ => n - iOfI vi)
  case atStart => exact ⟨0, 0, rfl, by omega, by omega, Lib.hid ⟨rfl, trivial⟩, Lib.hid ⟨rfl, Or.inl ⟨rfl, rfl⟩⟩, Lib.hid (Below.refl _ _)⟩
  case round =>
    obtain ⟨i, k, rfl, hi, hki, HK, HO, HB⟩ := hrel
    by_cases hin : i < n
    · have hin1 : (i : Int) < (n : Int) := by omega
      obtain ⟨y, hy⟩ : ∃ y, L[i]? = some y := ⟨_, List.getElem?_eq_getElem (by rw [HN.out.1]; exact hin)⟩
      obtain ⟨g, o, rfl, hbl, r0, r1, r2, r3⟩ := (HR.out.below HB.out).item hy
      have hs := woI_succ id hy
      have HY := Lib.hid hs
      clear hy hs hbl
      by_cases hyi : y.id = id
      · have hs2 : woI id (L.take (i + 1)) = woI id (L.take i) := by rw [HY.out, if_pos hyi, List.append_nil]
        have HS2 := Lib.hid (And.intro hs2 trivial)
        have hne : (y.id != id) = false := by simp [hyi]
        clear hs2
        have HYI := Lib.hid (And.intro hyi trivial)
        clear hyi
        go_wp2_with fail
        go_round
        case rel => exact ⟨i + 1, k, by first | rfl | go_num, by omega, by omega, by rw [HS2.out.1]; exact HK, by rw [HS2.out.1]; exact HO, HB⟩
        case measure => simp [iOfI]; omega
      · have hs2 : woI id (L.take (i + 1)) = woI id (L.take i) ++ [y] := by rw [HY.out, if_neg hyi]
        have HS2 := Lib.hid (And.intro hs2 trivial)
        have hne : (y.id != id) = true := by simp [hyi]
        have hone : ∀ u ∈ (#[.string y.p, .int .i64 y.id, .int .i64 y.sz, .string y.sm] : Array Value).toList, u.oneCell' = true := fun u hu => by
          simp at hu
          rcases hu with rfl | rfl | rfl | rfl <;> rfl
        have HE := Lib.hid (And.intro hone HB.out.size)
        clear hs2 hone hyi
        go_wp2_with (at_builtin; go_must (refine wpList_append_new _ rfl (.tmp 20) (.tmp 25) 23 rfl w.heap.size 46 4 48 el_item _ _ _ HO.out (by rfl) _ (by rfl) rfl HE.out.1 (by unfold maxLen; omega) (by omega) HE.out.2 ?_); intro v5 w5 ho5 hb5)
        have ho6 : w5.ownsRow w.heap.size 46 4 v5 (k + 1) (itf (woI id (L.take (i + 1)))) := by
          rw [HS2.out.1, itf_app]
          exact ho5
        have H6 := Lib.hid (And.intro ho6 (HB.out.trans hb5))
        clear ho5 hb5 ho6
        first
          | (go_round
             case rel => exact ⟨i + 1, k + 1, by first | rfl | go_num, by omega, by omega, Lib.hid ⟨by rw [HS2.out.1, List.length_append, HK.out.1]; rfl, trivial⟩, Lib.hid H6.out.1, Lib.hid H6.out.2⟩
             case measure => simp [iOfI]; omega)
          | exact ⟨⟨i + 1, k + 1, by first | rfl | go_num, by omega, by omega, Lib.hid ⟨by rw [HS2.out.1, List.length_append, HK.out.1]; rfl, trivial⟩, Lib.hid H6.out.1, Lib.hid H6.out.2⟩, by simp [iOfI]; omega⟩
    · obtain rfl : i = n := by omega
      have htk : L.take i = L := List.take_of_length_le (by rw [HN.out.1]; omega)
      have hin1 : ¬ ((i : Int) < (i : Int)) := by omega
      have HTK := Lib.hid (And.intro htk trivial)
      clear htk
      go_wp2_with fail
      go_ret
      obtain ⟨_, B, d, rfl, h1, h2, h3⟩ := Sl.own HO.out
      have hk := HK.out.1
      rw [HTK.out.1] at h3 hk
      exact ⟨B, d, by rw [hk]; rfl, by rw [hk]; exact h1, h2, h3, HB.out⟩
end Go.Proofs.Ytnhbkfefpkocaaa
