/-
  The code's disk: Clone.
-/
import Derived.Test.YtbblmjpjcabfpaaDkL
namespace Go.Proofs.Ytbblmjpjcabfpaa
open Go.RowKit Go.Maps Go.Shelf

theorem clone_is (w : World) (g n c : Nat) (l : List ByteArray) (cur : Array Value) (hG : Bk w g 9 cur) (hcur : cur.toList.take n = strs l) (hl : l.length = n) (h1n : 1 ≤ n) (hn : n ≤ 1024) :
    Calls Try.prog 38 #[.slice (some ⟨g, 0, none⟩) n c] w fun e w' => ∃ g' cap' cur', e = .returned (.slice (some ⟨g', 0, none⟩) n cap') ∧ w.heap.size ≤ g' ∧ Bk w' g' 9 cur' ∧ n ≤ cap' ∧ cur'.toList.take n = strs l ∧ Below w.heap.size w w' := by
  have h := Try.slices_Clone_string g 0 n c l w (by omega) (by omega) (fun j hj => by
    have h2 : (strs l)[j]? = some (.string (l.getD j ByteArray.empty)) := by
      unfold strs
      rw [List.getElem?_map, List.getElem?_eq_getElem hj, List.getD_eq_getElem?_getD, List.getElem?_eq_getElem hj]
      rfl
    rw [← hcur, List.getElem?_take, if_pos (by omega), Array.getElem?_toList] at h2
    rw [Nat.zero_add]
    exact (hG.cell j).trans h2)
  refine h.mono ?_
  rintro e w' ⟨v', rfl, h1, _, h2⟩
  rw [List.take_of_length_le (by omega)] at h1
  obtain ⟨g', cap, cur', rfl, hg', hG', hcap, _, hcur'⟩ := own_block h1 (by omega)
  exact ⟨g', cap, cur', rfl, hg', hG', hcap, hcur', h2⟩
theorem mclone_is (w : World) (m n : Nat) (D0 : DataW Unit) (hM : w.ownsMap Try.prog 3 (plainElem Try.prog 9) m n D0) :
    Calls Try.prog 39 #[.map (some m)] w fun e w' => ∃ m', e = .returned (.map (some m')) ∧ w.heap.size ≤ m' ∧ (∀ D : DataW Unit, w.ownsMap Try.prog 3 (plainElem Try.prog 9) m n D → w'.ownsMap Try.prog 3 (plainElem Try.prog 9) m' n D) ∧ Below w.heap.size w w' := by
  obtain ⟨es, clock, hb, _⟩ := hM
  have h := AnyW.maps_Clone Try.cloneM m es clock w hb
  refine h.mono ?_
  rintro e w' ⟨rfl, hw⟩
  subst hw
  refine ⟨_, rfl, Nat.le_refl _, fun D hD => ?_, (Below.refl _ w).alloc (Nat.le_refl _) _⟩
  obtain ⟨es2, clock2, hb2, F, hs, hD2⟩ := hD
  rw [hb] at hb2
  cases hb2
  exact ⟨es, clock, (MapKept.heap_alloc w _).1, F, hs, hD2⟩
theorem ownsMap_below {w w' : World} {m n : Nat} {D : DataW Unit} (hM : w.ownsMap Try.prog 3 (plainElem Try.prog 9) m n D) (hb : Below w.heap.size w w') : w'.ownsMap Try.prog 3 (plainElem Try.prog 9) m n D :=
  hM.kept (row := none) ⟨hb.os, hb.tape, hb.output, hb.size, fun k hk _ => hb.block k hk⟩ (by simp)
/-- A new disk out of a copied row and a copied map. -/
theorem DiskAt.copied {w w1 : World} {b g m n g' cap : Nat} {cur' : Array Value} {S : St} (h : DiskAt w b g m S n) {m' : Nat} (hG' : Bk w1 g' 9 cur') (hcap : n ≤ cap) (hcur' : cur'.toList.take n = strs S.old)
    (hM : ∀ D : DataW Unit, w.ownsMap Try.prog 3 (plainElem Try.prog 9) m n D → w1.ownsMap Try.prog 3 (plainElem Try.prog 9) m' n D) :
    DiskAt (w1.alloc (.cells #[.slice (some ⟨g', 0, none⟩) n cap, .map (some m'), .int .i64 S.fuse, .bool S.dead] 55)) w1.heap.size g' m' S n := by
  obtain ⟨cur, c, D, hB, hG, hcur, hc, hM0, hDS, hkk, hsz, hbg, hok, hn1, hn2, hf⟩ := h
  refine ⟨cur', cap, D, Bk.new w1 _ _, hG'.alloc _, hcur', hcap, (hM D hM0).alloc _, hDS, hkk, hsz, ?_, hok, hn1, hn2, hf⟩
  have := hG'.lt
  omega

set_option maxRecDepth 100000 in
set_option maxHeartbeats 4000000 in
theorem clone_any (w : World) (b g m : Nat) (S : St) (n : Nat) (h : DiskAt w b g m S n) :
    Calls Try.prog 21 #[.pointer (some ⟨b, 0, none⟩)] w fun e w' => ∃ b' g' m', e = .returned (.pointer (some ⟨b', 0, none⟩)) ∧ DiskAt w' b' g' m' S n ∧ w.heap.size ≤ b' ∧ w.heap.size ≤ g' ∧ w.heap.size ≤ m' ∧ Below w.heap.size w w' := by
  have HD := Lib.hid h
  obtain ⟨cur, c, D, hB, hG, hcur, hc, hM, hDS, hkk, hsz, hbg, hok, hn1, hn2, hf⟩ := h
  obtain ⟨F, hF⟩ : ∃ F, S.fuse = F := ⟨_, rfl⟩
  obtain ⟨E, hE⟩ : ∃ E, S.dead = E := ⟨_, rfl⟩
  have p0 := hB.cell 0
  have p1 := hB.cell 1
  have p2 := hB.cell 2
  have p3 := hB.cell 3
  simp only [List.getElem?_toArray, List.getElem?_cons_succ, List.getElem?_cons_zero] at p0 p1 p2 p3
  rw [hF] at p2
  rw [hE] at p3
  have HF := Lib.hid hF
  have HE := Lib.hid hE
  have hlt := hB.lt
  have hlo := hok.lo
  have HLO := Lib.hid hlo
  have hS : Hid (∀ w', Below w.heap.size w w' → w'.cell? ⟨b, 0, none⟩ = some (.slice (some ⟨g, 0, none⟩) n c) ∧ w'.cell? ⟨b, 1, none⟩ = some (.map (some m)) ∧ w'.cell? ⟨b, 2, none⟩ = some (.int .i64 F) ∧ w'.cell? ⟨b, 3, none⟩ = some (.bool E)) :=
    Lib.hid fun w' hb => ⟨(hb.cell hlt).trans p0, (hb.cell hlt).trans p1, (hb.cell hlt).trans p2, (hb.cell hlt).trans p3⟩
  have HG := Lib.hid hG
  have HM := Lib.hid hM
  have HCUR := Lib.hid hcur
  clear hB hG hcur hc hM hDS hkk hsz hok hF hE hlo p0 p1 p2 p3
  go_enter Try.func21, Try.ntmps21
  go_upto_region 3 with (fail)
  go_region_held3 (fun w' => Below w.heap.size w w' ∧ w'.cell? ⟨b, 0, none⟩ = some (.slice (some ⟨g, 0, none⟩) n c) ∧ w'.cell? ⟨b, 1, none⟩ = some (.map (some m)) ∧ w'.cell? ⟨b, 2, none⟩ = some (.int .i64 F) ∧ w'.cell? ⟨b, 3, none⟩ = some (.bool E))
    (first | exact ⟨hX, hS.out _ hX⟩ | exact ⟨hY, hS.out _ hY⟩ | (refine ⟨?_, hS.out _ ?_⟩ <;> exact ⟨rfl, rfl, rfl, Nat.le_refl _, fun _ _ => rfl⟩) | (refine ⟨?_, hS.out _ ?_⟩ <;> exact (Below.alloc (by assumption) (by first | exact hX.size | exact hY.size) _)))
    (first
      | (go_at_call 38; refine (clone_is _ g n c S.old cur (HG.out.below' ‹Below w.heap.size w _ ∧ _›.1) HCUR.out HLO.out hn1 hn2).mono ?_; rintro e w3 ⟨g', cap', cur', rfl, hg', hG', hcap', hcur', hb3⟩; have hX : Below w.heap.size w w3 := below_then ‹Below w.heap.size w _ ∧ _›.1 hb3 ‹Below w.heap.size w _ ∧ _›.1.size)
      | (go_at_call 39; refine (mclone_is _ m n D (ownsMap_below HM.out ‹Below w.heap.size w _ ∧ _›.1)).mono ?_; rintro e w4 ⟨m', rfl, hm', hMm, hb4⟩; have hY : Below w.heap.size w w4 := below_then ‹Below w.heap.size w _ ∧ _›.1 hb4 ‹Below w.heap.size w _ ∧ _›.1.size))
  all_goals
    go_wp2_with fail
    go_ret
  · have hG2 := hG'.below' hb4
    have hsz := hY.size
    have hsz1 := hX.size
    have hK := HD.out.copied hG2 hcap' hcur' fun D hD => hMm D (ownsMap_below hD hX)
    rw [HF.out, HE.out] at hK
    simp at hg'
    exact ⟨_, g', m', rfl, hK, hsz, hg', by omega, hY.alloc hsz _⟩
end Go.Proofs.Ytbblmjpjcabfpaa
