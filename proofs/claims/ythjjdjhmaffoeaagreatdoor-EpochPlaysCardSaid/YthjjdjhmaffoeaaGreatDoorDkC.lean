/-
  The code's disk in memory; may, burn, Len, Dead, Fuse.
-/
import Derived.Test.YthjjdjhmaffoeaaGreatDoorDkB
import Derived.Test.YthjjdjhmaffoeaaGreatDoorProg
import Derived.Lib.Hide
import Derived.BigQuiet
import Derived.Deep.QuietTactic
import Derived.Maps.StringElems
import Derived.Maps.OwnOps
namespace Go.Proofs.YthjjdjhmaffoeaaGreatDoor
open Go.RowKit Go.Maps

/-- The sectors' texts, as cells. -/
def strs (l : List ByteArray) : List Value := l.map fun s => Value.string s
/-- A map's datum is what was written since the last sync. -/
def MapSt (D : DataW Unit) (S : St) : Prop :=
  ∀ i : Nat, i < S.lst.length → Maps.has D (.int .i64 i) = S.fresh.getD i false ∧ ∀ z, S.fresh[i]? = some true → D.atKey (.int .i64 i) z = .lit (.string (S.lst.getD i ⟨#[]⟩).data.toList)
/-- A disk in memory: its struct's block, its sectors' row, its map. -/
def DiskAt (w : World) (b g m : Nat) (S : St) (n : Nat) : Prop :=
  ∃ (cur : Array Value) (c : Nat) (D : DataW Unit), Bk w b 49 #[.slice (some ⟨g, 0, none⟩) n c, .map (some m), .int .i64 S.fuse, .bool S.dead] ∧ Bk w g 9 cur ∧ cur.toList.take n = strs S.old ∧ n ≤ c ∧
    w.ownsMap Tryz.prog 3 (plainElem Tryz.prog 9) m n D ∧ MapSt D S ∧ (∀ k, Maps.has D k = true → ∃ i : Nat, i < n ∧ k = .int .i64 i) ∧ Maps.size D = S.fresh.countP id ∧ b ≠ g ∧ S.Ok n ∧ 1 ≤ n ∧ n ≤ 1024 ∧ S.fuse ≤ 9223372036854775807

set_option maxRecDepth 20000 in
set_option maxHeartbeats 1000000 in
theorem may_any (w : World) (b g m : Nat) (S : St) (n : Nat) (i : Int) (h : DiskAt w b g m S n) :
    Calls Tryz.prog 33 #[.pointer (some ⟨b, 0, none⟩), .int .i64 i] w fun e w' => e = .returned (.int .i64 (S.may i)) ∧ Below w.heap.size w w' := by
  obtain ⟨cur, c, D, hB, _, _, hc, _, _, _, _, _, hok, hn1, hn2, _⟩ := h
  have p0 := hB.cell 0
  have p3 := hB.cell 3
  simp only [List.getElem?_toArray, List.getElem?_cons_succ, List.getElem?_cons_zero] at p0 p3
  obtain ⟨k, hk⟩ : ∃ k, S.may i = k := ⟨_, rfl⟩
  rw [hk]
  cases hd : S.dead with
  | true =>
    have HK := Lib.hid (show k = 7 by rw [← hk]; unfold St.may; rw [hd]; rfl)
    rw [hd] at p3
    clear hk hB hok hd
    go_enter Tryz.func33, Tryz.ntmps33
    go_wp2_with fail
    go_ret
    exact ⟨by rw [HK.out]; rfl, Below.refl _ _⟩
  | false =>
    rw [hd] at p3
    by_cases hi : i < 0 ∨ (n : Int) ≤ i
    · have HK := Lib.hid (show k = 10 by rw [← hk, St.may_out hok hi, hd]; rfl)
      clear hk hB hok hd
      rcases hi with hi | hi
      all_goals
        go_enter Tryz.func33, Tryz.ntmps33
        go_wp2_with fail
        all_goals go_ret
        all_goals exact ⟨by rw [HK.out]; rfl, Below.refl _ _⟩
    · have HK := Lib.hid (show k = 0 by rw [← hk, St.may_ok hok (by omega) (by omega), hd]; rfl)
      have hi1 : ¬ i < 0 := by omega
      have hi2 : ¬ (n : Int) ≤ i := by omega
      clear hk hB hok hd hi
      go_enter Tryz.func33, Tryz.ntmps33
      go_wp2_with fail
      go_ret
      exact ⟨by rw [HK.out]; rfl, Below.refl _ _⟩
end Go.Proofs.YthjjdjhmaffoeaaGreatDoor
