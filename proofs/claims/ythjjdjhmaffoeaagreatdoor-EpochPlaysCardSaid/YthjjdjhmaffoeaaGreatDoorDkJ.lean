/-
  The code's disk: Unsynced.
-/
import Derived.Test.YthjjdjhmaffoeaaGreatDoorDkI
namespace Go.Proofs.YthjjdjhmaffoeaaGreatDoor
open Go.RowKit Go.Maps Go.Sort Go.Shelf

/-- Those that are not synced, as numbers. -/
def unsI (S : St) : List Int := S.uns.map fun i : Nat => (i : Int)
theorem uns_mem : ∀ (fs : List Bool) (j t : Nat), t ∈ unsF fs j ↔ j ≤ t ∧ fs[t - j]? = some true
  | [], j, t => by simp [unsF]
  | f :: fs, j, t => by
    have ih := uns_mem fs (j + 1) t
    unfold unsF
    cases f
    · simp only [Bool.false_eq_true, if_false]
      rw [ih]
      constructor
      · rintro ⟨h1, h2⟩
        refine ⟨by omega, ?_⟩
        rw [show t - j = (t - (j + 1)) + 1 by omega]
        simpa using h2
      · rintro ⟨h1, h2⟩
        rcases Nat.eq_or_lt_of_le h1 with h | h
        · subst h
          simp at h2
        · rw [show t - j = (t - (j + 1)) + 1 by omega] at h2
          exact ⟨by omega, by simpa using h2⟩
    · simp only [if_true, List.mem_cons]
      rw [ih]
      constructor
      · rintro (rfl | ⟨h1, h2⟩)
        · simp
        · refine ⟨by omega, ?_⟩
          rw [show t - j = (t - (j + 1)) + 1 by omega]
          simpa using h2
      · rintro ⟨h1, h2⟩
        rcases Nat.eq_or_lt_of_le h1 with h | h
        · exact Or.inl h.symm
        · rw [show t - j = (t - (j + 1)) + 1 by omega] at h2
          exact Or.inr ⟨by omega, by simpa using h2⟩
theorem uns_sorted : ∀ (fs : List Bool) (j : Nat), (unsF fs j).Pairwise (· < ·)
  | [], j => List.Pairwise.nil
  | f :: fs, j => by
    have ih := uns_sorted fs (j + 1)
    unfold unsF
    cases f
    · simpa using ih
    · simp only [if_true]
      exact List.pairwise_cons.2 ⟨fun t ht => by have := uns_ge fs (j + 1) t ht; omega, ih⟩
theorem unsI_sorted (S : St) : (unsI S).Pairwise (· < ·) := by
  unfold unsI
  refine List.pairwise_map.2 ((uns_sorted S.fresh 0).imp fun h => by omega)
theorem unsI_mem (S : St) (x : Int) : x ∈ unsI S ↔ ∃ i : Nat, x = i ∧ S.fresh[i]? = some true := by
  unfold unsI St.uns
  rw [List.mem_map]
  constructor
  · rintro ⟨i, hi, rfl⟩
    exact ⟨i, rfl, by simpa using (uns_mem S.fresh 0 i).1 hi⟩
  · rintro ⟨i, rfl, hi⟩
    exact ⟨i, (uns_mem S.fresh 0 i).2 (by simpa using hi), rfl⟩
theorem unsI_keys {w : World} {m n : Nat} {D : DataW Unit} {S : St} (hM : w.ownsMap Tryz.prog 3 (plainElem Tryz.prog 9) m n D) (hD : MapSt D S) (hk : ∀ k, Maps.has D k = true → ∃ i : Nat, i < n ∧ k = .int .i64 i) (hok : S.Ok n) : (unsI S).Perm (intKeys D) := by
  obtain ⟨es, rfl, hpw, hlit⟩ := hM.entries law_int
  refine perm_intKeys hpw (fun p hp => ?_) ((unsI_sorted S).imp fun h e => by omega) fun x => ?_
  · obtain ⟨i, _, e⟩ := hk p.1 (by
      rw [has_eq, List.any_eq_true]
      refine ⟨p, hp, ?_⟩
      have h9 := hlit p hp
      revert h9
      cases p.1 <;> simp [Lit.sameKey, WideAt.IsKeyLit])
    exact ⟨_, e⟩
  · rw [unsI_mem]
    constructor
    · rintro ⟨i, rfl, hi⟩
      have hlt : i < S.lst.length := by
        have := (List.getElem?_eq_some_iff.1 hi).1
        rw [hok.lf] at this
        rw [hok.ll]; exact this
      rw [(hD i hlt).1, List.getD_eq_getElem?_getD, hi]
      rfl
    · intro hx
      obtain ⟨i, hi, e⟩ := hk _ hx
      have e2 : x = (i : Int) := by injection e
      subst e2
      refine ⟨i, rfl, ?_⟩
      rw [(hD i (by rw [hok.ll]; exact hi)).1, List.getD_eq_getElem?_getD, List.getElem?_eq_getElem (by rw [hok.lf]; exact hi)] at hx
      rw [List.getElem?_eq_getElem (by rw [hok.lf]; exact hi)]
      simpa using hx
theorem unsI_sort {S : St} {ss : List Int} {w : World} {m n : Nat} {D : DataW Unit} (hp : ss.Perm (intKeys D)) (hM : w.ownsMap Tryz.prog 3 (plainElem Tryz.prog 9) m n D) (hD : MapSt D S) (hk : ∀ k, Maps.has D k = true → ∃ i : Nat, i < n ∧ k = .int .i64 i) (hok : S.Ok n) :
    ss.mergeSort (fun x y => decide (x ≤ y)) = unsI S := by
  have h1 := mergeSort_of_perm_i (hp.trans (unsI_keys hM hD hk hok).symm)
  refine h1.trans (List.mergeSort_of_pairwise ((unsI_sorted S).imp fun h => ?_))
  simp only [decide_eq_true_eq]
  omega

/-- slices.Sort's two contracts, at the fence that asks nothing. -/
theorem sorts_in (m : Nat) : AnyZI.SortsIn Tryz.prog Tryz.sortedA_ren Fence.wide m :=
  ⟨fun blk off cap ss W hH hblk hsz => callsIn_wide.2 (Tryz.slices_Sort_int blk off cap ss W hH hblk hsz),
   fun p cap W => callsIn_wide.2 (Tryz.slices_Sort_int_none p cap W)⟩

set_option maxRecDepth 100000 in
set_option maxHeartbeats 4000000 in
theorem uns_any (w : World) (b g m : Nat) (S : St) (n : Nat) (h : DiskAt w b g m S n) :
    Calls Tryz.prog 36 #[.pointer (some ⟨b, 0, none⟩)] w (RetS w (unsI S).length ((unsI S).map (Value.int .i64))) := by
  obtain ⟨cur, c, D, hB, hG, hcur, hc, hM, hDS, hkk, hsz, hbg, hok, hn1, hn2, hf⟩ := h
  have HW := Lib.hid fun (ss : List Int) (hp : ss.Perm (intKeys D)) => unsI_sort hp hM hDS hkk hok
  have hLn : (unsI S).length ≤ n := by
    unfold unsI St.uns
    rw [List.length_map, uns_len]
    exact Nat.le_trans List.countP_le_length (Nat.le_of_eq hok.lf)
  have hsn : Maps.size D ≤ n := by rw [hsz]; exact Nat.le_trans List.countP_le_length (Nat.le_of_eq hok.lf)
  have p1 := hB.cell 1
  simp only [List.getElem?_toArray, List.getElem?_cons_succ, List.getElem?_cons_zero] at p1
  refine (callsIn_wide (n := 6)).1 ?_
  have hbl := hM.lt
  have hseq : SeqGives Fence.wide 2 Tryz.prog 72 #[.pointer (some ⟨w.heap.size, 0, none⟩)] encZ (fun ss => ss.Perm (intKeys D)) (Maps.size D) (w.alloc (.cells #[.map (some m)] 47)) :=
    AnyZI.keys_gives (ρ := Tryz.keysA_ren) { Tryz.keysA with } Fence.wide _ trivial rfl (by omega) w.heap.size m n D _ (by simp) (by simp) (by
      obtain ⟨es, clock, hb, Ft, hs, hD⟩ := hM
      exact ⟨es, clock, (Below.heap_alloc _ _ m hbl).trans hb, Ft, hs, hD⟩)
  have cK : ∀ mb W, CallsIn Fence.wide 5 Tryz.prog 59 #[.map mb] W fun e w' => e = .returned (.func (.func 72) #[] #[.pointer (some ⟨W.heap.size, 0, none⟩)]) ∧ w' = W.alloc (.cells #[.map mb] 47) := fun mb W => AnyZI.keys_in Tryz.keysA Fence.wide 5 trivial rfl mb W
  have cS := AnyZI.sorted_in Tryz.sortedA Fence.wide 5 trivial trivial trivial trivial rfl (by omega) (sorts_in _) (enters_of Tryz.func71 (by kernel_rfl) rfl) 72 #[.pointer (some ⟨w.heap.size, 0, none⟩)] trivial (enters_of Tryz.func72 (by kernel_rfl) rfl) _ _ (by unfold maxLen; omega) (by omega) _ hseq
  change CallsIn _ _ Tryz.prog 58 _ _ _ at cS
  have hfK : Fence.wide.fn 59 := trivial
  have hfS : Fence.wide.fn 58 := trivial
  clear hB hG hcur hc hM hDS hkk hsz hok hseq hbl
  refine callsIn_of_wp Tryz.func36 rfl trivial ?_ rfl
  simp only [Tryz.ntmps36, List.size_toArray, List.length_cons, List.length_nil, Nat.reduceAdd, Nat.reduceSub, Array.replicate_succ, Array.replicate_zero, List.push_toArray, List.append_toArray, List.nil_append, List.cons_append]
  gi_wp2_with (first
    | (gi_at_call 59; refine (cK _ _).mono ?_; rintro e w' ⟨rfl, rfl⟩)
    | (gi_at_call 58; refine cS.mono ?_; rintro e w' ⟨v, ss, rfl, hS, hrow, hnil, hb⟩))
  go_ret
  have e := HW.out ss hS
  have hl : ss.length = (unsI S).length := by rw [← e, List.length_mergeSort]
  rw [e, hl] at hrow
  exact RetS.own hrow (((Below.refl _ w).alloc (Nat.le_refl _) _).trans (hb.mono (by simp))) (by simp)
end Go.Proofs.YthjjdjhmaffoeaaGreatDoor
