/-
  The walks of package bitset and of its reference (chapter 22), the small ones. Lists of yes and no as cells. The walks of the reference of chapter 22: a set as a list of yes and no.
-/
import Derived.Test.YtaagdoaeefhleaaDoorChecked
import Derived.Test.YtaagdoaeefhleaaDoorBitP
import Derived.Lib.Hide
import Derived.Deep.DeepMust
import Derived.RegionTactic
import Derived.BigRegion
namespace Go.Proofs.YtaagdoaeefhleaaDoor
open Go.RowKit

def setV (L : List Bool) : Value := .agg #[.int .i64 (L.length : Nat), .int .u64 (wdN L 0 : Nat), .int .u64 (wdN L 1 : Nat), .int .u64 (wdN L 2 : Nat), .int .u64 (wdN L 3 : Nat)]
def clampB (n : Int) : Nat := min n.toNat 256
def newB (n : Int) : List Bool := List.replicate (clampB n) false
theorem newB_length (n : Int) : (newB n).length = clampB n := by simp [newB]
theorem clampB_le (n : Int) : clampB n ≤ 256 := by unfold clampB; omega
theorem newB_word (n : Int) (q : Nat) : wdN (newB n) q = 0 := by
  refine wdN_ext (wdN_lt _ _) (by omega) fun i hi => ?_
  rw [wdN_bit _ _ _ hi]
  simp [newB, List.getD_eq_getElem?_getD, List.getElem?_replicate]
  split <;> rfl
theorem setV_new (n : Int) : setV (newB n) = .agg #[.int .i64 (clampB n : Nat), .int .u64 0, .int .u64 0, .int .u64 0, .int .u64 0] := by
  unfold setV
  rw [newB_word, newB_word, newB_word, newB_word, newB_length]; rfl

set_option maxHeartbeats 400000 in
theorem new_any (n : Int) (w : World) :
    Calls Tryd.prog 16 #[.int .i64 n] w fun e w' => e = .returned (setV (newB n)) ∧ Below w.heap.size w w' := by
  have Hv := Lib.hid (setV_new n)
  have hc : clampB n = min n.toNat 256 := rfl
  by_cases h1 : n < 0
  · have Hk := Lib.hid (show ((clampB n : Nat) : Int) = 0 by omega)
    clear hc
    go_enter Tryd.func16, Tryd.ntmps16
    go_wp2
    exact bodyPost_ret (v := setV (newB n)) (by rw [Hv.out, Hk.out]; simp [results, Tryd.results16, go_sem]) rfl ⟨rfl, (Below.refl _ _).alloc (Nat.le_refl _) _⟩
  · by_cases h2 : 256 < n
    · have Hk := Lib.hid (show ((clampB n : Nat) : Int) = 256 by omega)
      clear hc
      go_enter Tryd.func16, Tryd.ntmps16
      go_wp2
      exact bodyPost_ret (v := setV (newB n)) (by rw [Hv.out, Hk.out]; simp [results, Tryd.results16, go_sem]) rfl ⟨rfl, (Below.refl _ _).alloc (Nat.le_refl _) _⟩
    · have Hk := Lib.hid (show ((clampB n : Nat) : Int) = n by omega)
      clear hc
      go_enter Tryd.func16, Tryd.ntmps16
      go_wp2
      exact bodyPost_ret (v := setV (newB n)) (by rw [Hv.out, Hk.out]; simp [results, Tryd.results16, go_sem]) rfl ⟨rfl, (Below.refl _ _).alloc (Nat.le_refl _) _⟩

set_option maxHeartbeats 400000 in
theorem with_any (L : List Bool) (i : Int) (w : World) (hL : L.length ≤ 256) :
    Calls Tryd.prog 17 #[setV L, .int .i64 i] w fun e w' => e = .returned (setV (setB L i true)) ∧ Below w.heap.size w w' := by
  unfold setV
  by_cases h0 : i < 0
  · have H := Lib.hid (show setB L i true = L by unfold setB; rw [if_neg (by omega)])
    rw [H.out]
    go_enter Tryd.func17, Tryd.ntmps17
    go_wp2
    exact bodyPost_ret (v := setV L) (by unfold setV; simp [results, Tryd.results17, go_sem]) rfl ⟨rfl, ((Below.refl _ _).alloc (Nat.le_refl _) _).alloc (by simp) _⟩
  · obtain ⟨k, rfl⟩ : ∃ k : Nat, i = k := ⟨i.toNat, by omega⟩
    by_cases h1 : (L.length : Int) ≤ (k : Int)
    · have H := Lib.hid (show setB L k true = L by unfold setB; rw [if_pos (by omega)]; exact List.set_eq_of_length_le (by omega))
      rw [H.out]
      go_enter Tryd.func17, Tryd.ntmps17
      go_wp2
      exact bodyPost_ret (v := setV L) (by unfold setV; simp [results, Tryd.results17, go_sem]) rfl ⟨rfl, ((Below.refl _ _).alloc (Nat.le_refl _) _).alloc (by simp) _⟩
    · have hw := setList_word L (k / 64) (by omega)
      obtain ⟨M, hM⟩ : ∃ M, M = L.set k true := ⟨_, rfl⟩
      have Hset := Lib.hid (list_set L M k _ true (by omega) (by omega) hM ((with_word L k (by omega)).trans (by rw [hM])))
      have H := Lib.hid (show setB L k true = M by unfold setB; rw [if_pos (by omega), hM]; rfl)
      clear hM
      rw [H.out]
      go_enter Tryd.func17, Tryd.ntmps17
      go_wp2
      go_region
      rw [Hset.out]
      go_wp2
      exact bodyPost_ret (v := setV M) (by unfold setV; simp [results, Tryd.results17, go_sem]) rfl ⟨rfl, (((Below.refl _ _).alloc (Nat.le_refl _) _).alloc (by simp) _).drew⟩
end Go.Proofs.YtaagdoaeefhleaaDoor
namespace Go.Proofs.YtaagdoaeefhleaaDoor
open Go.RowKit

theorem Tryd.info4 : (Tryd.prog.info? 4).map (fun i => (i.zero, i.size, i.bytes)) = some (some (.bool false), 1, 1) := by kernel_rfl
theorem el_bool : El Tryd.prog 33 4 1 1 := El.mk_ (z := .bool false) Tryd.underlying33 Tryd.info4 (by omega) rfl
theorem one_of_bools (L : List Bool) : ∀ u ∈ L.map Value.bool, u.oneCell' = true := by
  intro u hu
  obtain ⟨b, _, rfl⟩ := List.mem_map.1 hu
  rfl

end Go.Proofs.YtaagdoaeefhleaaDoor
namespace Go.Proofs.YtaagdoaeefhleaaDoor
open Go.RowKit

/-- The first place from k on that holds v; -1: there is none. -/
def nextR (L : List Bool) (v : Bool) (k : Nat) : Int := if h : k < L.length then (if L.getD k false = v then (k : Int) else nextR L v (k + 1)) else -1
termination_by L.length - k
theorem nextR_end (L : List Bool) (v : Bool) (k : Nat) (h : L.length ≤ k) : nextR L v k = -1 := by unfold nextR; rw [dif_neg (by omega)]
theorem nextR_hit (L : List Bool) (v : Bool) (k : Nat) (h : k < L.length) (hv : L.getD k false = v) : nextR L v k = k := by unfold nextR; rw [dif_pos h, if_pos hv]
theorem nextR_miss (L : List Bool) (v : Bool) (k : Nat) (h : k < L.length) (hv : L.getD k false ≠ v) : nextR L v k = nextR L v (k + 1) := by rw [nextR, dif_pos h, if_neg hv]
def nextB (L : List Bool) (i : Int) (v : Bool) : Int := nextR L v i.toNat

set_option maxHeartbeats 400000 in
theorem newRef_any (n : Int) (w : World) : Calls Tryd.prog 18 #[.int .i64 n] w (RetS w (clampB n) ((newB n).map Value.bool)) := by
  have hle := clampB_le n
  have hmin : clampB n = min n.toNat 256 := rfl
  go_enter Tryd.func18, Tryd.ntmps18
  go_wp2
  go_loopw [3, 4] (fun v i wr => ∃ k : Nat, k ≤ clampB n ∧ i = .int .i64 k ∧ wr.ownsRow w.heap.size 4 1 v k (List.replicate k (Value.bool false)) ∧ Below w.heap.size w wr) (fun _ i _ => clampB n - (intOf i).toNat)
  case atStart => exact ⟨0, by omega, rfl, World.ownsRow_nil _ _ _ _, Below.refl _ _⟩
  case round =>
    obtain ⟨k, hk, rfl, hown, hb⟩ := hrel
    have hsz := hb.size
    by_cases hlt : k < clampB n
    · have h1 : (k : Int) < n := by omega
      have h2 : (k : Int) < 256 := by omega
      have Hmin := Lib.hid hmin
      clear hmin
      go_wp2_with (at_builtin; go_must (refine wpList_append_new wr rfl (.tmp 14) (.tmp 15) 33 rfl w.heap.size 4 1 1 el_bool _ _ _ hown rfl _ rfl rfl (by intro u hu; simp at hu; subst hu; rfl) (by unfold maxLen; omega) (by omega) hsz ?_); intro v1 w1 hown1 hb1)
      go_roundw
      case rel => exact ⟨k + 1, by omega, by go_num, by rw [List.replicate_succ']; exact hown1, hb.trans hb1⟩
      case measure => simp [intOf]; omega
    · have hkk : k = clampB n := by omega
      have Hkk := Lib.hid hkk
      by_cases h1 : (k : Int) < n
      · have h2 : ¬ (k : Int) < 256 := by omega
        clear hmin hkk
        go_wp2
        go_ret
        rw [← Hkk.out, show (newB n).map Value.bool = List.replicate k (Value.bool false) by rw [Hkk.out]; simp [newB]]
        exact RetS.own hown hb (Nat.le_refl _)
      · clear hmin hkk
        go_wp2
        go_ret
        rw [← Hkk.out, show (newB n).map Value.bool = List.replicate k (Value.bool false) by rw [Hkk.out]; simp [newB]]
        exact RetS.own hown hb (Nat.le_refl _)

theorem cell_of_take {w : World} {g n : Nat} {t : TypeId} {cur : Array Value} {L : List Bool} (hB : Bk w g t cur) (ht : cur.toList.take n = L.map Value.bool) (k : Nat) (hn : k < n) (hk : k < L.length) :
    w.cell? ⟨g, k, none⟩ = some (.bool (L.getD k false)) := by
  rw [hB.cell]
  have h := congrArg (fun l : List Value => l[k]?) ht
  simp only [List.getElem?_take, if_pos hn, List.getElem?_map, Array.getElem?_toList] at h
  rw [h, List.getD_eq_getElem?_getD, List.getElem?_eq_getElem hk]
  rfl

set_option maxHeartbeats 400000 in
theorem setRef_any (A : Option Addr) (n c : Nat) (L : List Bool) (i : Int) (v : Bool) (w : World) (hL : L.length = n) (hn : n ≤ 1000000) (hr : Rd w A (L.map Value.bool)) :
    Calls Tryd.prog 19 #[.slice A n c, .int .i64 i, .bool v] w (RetS w n ((setB L i v).map Value.bool)) := by
  have hLm : (L.map Value.bool).length = n * 1 := by simp [hL]
  have HL := Lib.hid hL
  have HLm := Lib.hid hLm
  clear hL hLm
  by_cases h0 : i < 0
  · have H := Lib.hid (show setB L i v = L by unfold setB; rw [if_neg (by omega)])
    go_enter Tryd.func19, Tryd.ntmps19
    go_wp2_with (at_builtin; go_must (refine wpList_append_src w rfl (.tmp 8) (.tmp 9) 33 rfl w.heap.size 4 1 1 el_bool _ _ _ (World.ownsRow_nil _ _ _ _) rfl _ _ _ _ hr HLm.out rfl (one_of_bools L) (by unfold maxLen; omega) (by omega) (Nat.le_refl _) ?_); intro v1 w1 hown1 hb1)
    go_ret
    rw [H.out]
    simp only [Nat.zero_add, List.nil_append] at hown1
    exact RetS.own hown1 hb1 (Nat.le_refl _)
  · obtain ⟨k, rfl⟩ : ∃ k : Nat, i = k := ⟨i.toNat, by omega⟩
    by_cases h1 : (n : Int) ≤ (k : Int)
    · have H := Lib.hid (show setB L k v = L by unfold setB; rw [if_pos (by omega)]; exact List.set_eq_of_length_le (by have := HL.out; omega))
      go_enter Tryd.func19, Tryd.ntmps19
      go_wp2_with (at_builtin; go_must (refine wpList_append_src w rfl (.tmp 8) (.tmp 9) 33 rfl w.heap.size 4 1 1 el_bool _ _ _ (World.ownsRow_nil _ _ _ _) rfl _ _ _ _ hr HLm.out rfl (one_of_bools L) (by unfold maxLen; omega) (by omega) (Nat.le_refl _) ?_); intro v1 w1 hown1 hb1; simp only [Nat.zero_add, List.nil_append] at hown1; obtain ⟨_, A1, c1, hv1, _⟩ := Sl.own hown1; have Hv := Lib.hid hv1; clear hv1; rw [Hv.out])
      go_ret
      rw [H.out, ← Hv.out]
      exact RetS.own hown1 hb1 (Nat.le_refl _)
    · have hk : k < L.length := by have := HL.out; omega
      have H := Lib.hid (show setB L k v = L.set k v by unfold setB; rw [if_pos (by omega)]; rfl)
      go_enter Tryd.func19, Tryd.ntmps19
      go_wp2_with (at_builtin; go_must (refine wpList_append_src w rfl (.tmp 8) (.tmp 9) 33 rfl w.heap.size 4 1 1 el_bool _ _ _ (World.ownsRow_nil _ _ _ _) rfl _ _ _ _ hr HLm.out rfl (one_of_bools L) (by unfold maxLen; omega) (by omega) (Nat.le_refl _) ?_); intro v1 w1 hown1 hb1; simp only [Nat.zero_add, List.nil_append] at hown1; obtain ⟨g, cap, cur, hv1, hbg, hB, hnc, hcm, ht⟩ := own_block hown1 (by omega); have Hv := Lib.hid hv1; clear hv1; rw [Hv.out]; have hc : w1.cell? ⟨g, k, none⟩ = some (.bool (L.getD k false)) := cell_of_take hB ht k (by omega) hk; have hf := hB.frozen k; have Ht := Lib.hid ht; clear ht)
      go_ret
      rw [H.out]
      refine ⟨_, cap, rfl, hnc, hcm, ?_, fun ad hA => by cases hA; exact hbg, hb1.setCell hbg _⟩
      have h2 := (hB.set_ k (.bool v)).rd n
      rw [Array.toList_setIfInBounds, List.take_set, Ht.out, ← List.map_set] at h2
      exact h2
end Go.Proofs.YtaagdoaeefhleaaDoor
