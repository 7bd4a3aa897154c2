/-
  The code's disk: burn.
-/
import Derived.Test.YthjjdjhmaffoeaaGreatDoorDkC
namespace Go.Proofs.YthjjdjhmaffoeaaGreatDoor
open Go.RowKit Go.Maps

theorem DiskAt.cells {w : World} {b g m n : Nat} {S : St} (h : DiskAt w b g m S n) :
    w.cell? ⟨b, 2, none⟩ = some (.int .i64 S.fuse) ∧ w.cell? ⟨b, 3, none⟩ = some (.bool S.dead) ∧ w.frozen? ⟨b, 2, none⟩ = false ∧ w.frozen? ⟨b, 3, none⟩ = false := by
  obtain ⟨cur, c, D, hB, _⟩ := h
  have p2 := hB.cell 2
  have p3 := hB.cell 3
  simp only [List.getElem?_toArray, List.getElem?_cons_succ, List.getElem?_cons_zero] at p2 p3
  exact ⟨p2, p3, hB.frozen 2, hB.frozen 3⟩
theorem DiskAt.map_ne {w : World} {b g m n : Nat} {S : St} (h : DiskAt w b g m S n) : m ≠ b := by
  obtain ⟨cur, c, D, hB, _, _, _, hM, _⟩ := h
  obtain ⟨es, clock, hm, _⟩ := hM
  intro e
  subst e
  unfold Bk at hB
  rw [hm] at hB
  cases hB
/-- One of the struct's own cells is written. -/
theorem DiskAt.die {w : World} {b g m n : Nat} {S : St} (h : DiskAt w b g m S n) : DiskAt (w.setCell ⟨b, 3, none⟩ (.bool true)) b g m S.die n := by
  have hne := h.map_ne
  obtain ⟨cur, c, D, hB, hG, hcur, hc, hM, hD, hk, hsz, hbg, hok, hn1, hn2, hf⟩ := h
  have hB2 := hB.set_ 3 (.bool true)
  simp only [List.setIfInBounds_toArray, List.set_cons_succ, List.set_cons_zero] at hB2
  exact ⟨cur, c, D, hB2, hG.far (fun e => hbg e.symm) _, hcur, hc, hM.setCell hne _, hD, hk, hsz, hbg, hok.die, hn1, hn2, hf⟩
theorem DiskAt.fuseTo {w : World} {b g m n : Nat} {S : St} (h : DiskAt w b g m S n) (f : Int) (h1 : -1 ≤ f) (h2 : f ≤ 9223372036854775807) : DiskAt (w.setCell ⟨b, 2, none⟩ (.int .i64 f)) b g m { S with fuse := f } n := by
  have hne := h.map_ne
  obtain ⟨cur, c, D, hB, hG, hcur, hc, hM, hD, hk, hsz, hbg, hok, hn1, hn2, hf⟩ := h
  have hB2 := hB.set_ 2 (.int .i64 f)
  simp only [List.setIfInBounds_toArray, List.set_cons_succ, List.set_cons_zero] at hB2
  exact ⟨cur, c, D, hB2, hG.far (fun e => hbg e.symm) _, hcur, hc, hM.setCell hne _, hD, hk, hsz, hbg, ⟨hok.lo, hok.ll, hok.lf, hok.same, hok.zo, hok.zl, h1⟩, hn1, hn2, h2⟩

set_option maxRecDepth 20000 in
set_option maxHeartbeats 1000000 in
theorem burn_dead (w : World) (b : Nat) (h : w.cell? ⟨b, 2, none⟩ = some (.int .i64 0)) (v : Bool) (h3 : w.cell? ⟨b, 3, none⟩ = some (.bool v)) (f3 : w.frozen? ⟨b, 3, none⟩ = false) :
    Calls Tryz.prog 34 #[.pointer (some ⟨b, 0, none⟩)] w fun e w' => e = .returned (.bool false) ∧ w' = w.setCell ⟨b, 3, none⟩ (.bool true) := by
  go_enter Tryz.func34, Tryz.ntmps34
  go_wp2_with fail
  go_ret
  exact ⟨rfl, rfl⟩
set_option maxRecDepth 20000 in
set_option maxHeartbeats 1000000 in
theorem burn_live (w : World) (b : Nat) (f : Int) (hf : f ≠ 0) (h : w.cell? ⟨b, 2, none⟩ = some (.int .i64 f)) (f2 : w.frozen? ⟨b, 2, none⟩ = false) (h1 : -1 ≤ f) (h2 : f ≤ 9223372036854775807) :
    Calls Tryz.prog 34 #[.pointer (some ⟨b, 0, none⟩)] w fun e w' => e = .returned (.bool true) ∧ w' = w.setCell ⟨b, 2, none⟩ (.int .i64 (burn f)) := by
  have hf0 : (f == 0) = false := by simp [hf]
  have hw : IntKind.i64.wrap (f - 1) = f - 1 := by rw [IntKind.wrap_i64]; omega
  unfold burn
  clear hf
  go_enter Tryz.func34, Tryz.ntmps34
  go_wp2_with fail
  all_goals go_ret
  all_goals
    refine ⟨rfl, congrArg (fun x => w.setCell ⟨b, 2, none⟩ (.int .i64 x)) ?_⟩
    omega
end Go.Proofs.YthjjdjhmaffoeaaGreatDoor
