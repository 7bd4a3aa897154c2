/-
  Chapter 24's example (awake).
-/
import Derived.Test.YtachmdfabnigpaaDoorCatG
namespace Go.Proofs.YtachmdfabnigpaaDoor
open Go.RowKit Go.Sort

def zone (n : Int) (m : Int) (ba : Int) (hb : 0 ≤ ba ∧ ba ≤ 2000) (hn : 1 ≤ n ∧ n ≤ 2000) : Ent := ⟨1, zs 16, n, m, 9, zs 32, zs 32, ba, hb, hn⟩
def e1 : Ent := zone 3 576 12 (by omega) (by omega)
def e2 : Ent := zone 10 1920 20 (by omega) (by omega)
theorem flat2 (x y : Ent) : flat [x, y] = x.cs ++ y.cs := by
  unfold flat flatK
  rw [Array.toList_map, Array.toList_range, show List.range (#[x, y].size * 8) = [0, 1, 2, 3, 4, 5, 6, 7, 8, 9, 10, 11, 12, 13, 14, 15] from rfl]
  simp [Ent.cs]
theorem sorted2 {l' : List Ent} (hp : l'.Perm [e1, e2]) (hs : l'.Pairwise fun x y => x.ba ≤ y.ba) : l' = [e1, e2] := by
  refine List.Perm.eq_of_pairwise (le := fun x y : Ent => x.ba ≤ y.ba) (fun a b ha hb h1 h2 => ?_) hs ?_ hp
  · have ha' : a ∈ [e1, e2] := hp.mem_iff.1 ha
    simp only [List.mem_cons, List.not_mem_nil, or_false] at ha' hb
    rcases ha' with rfl | rfl <;> rcases hb with rfl | rfl
    · rfl
    · exact absurd h2 (by decide)
    · exact absurd h1 (by decide)
    · rfl
  · refine List.Pairwise.cons (fun b hb => ?_) (List.pairwise_singleton _ _)
    rw [List.mem_singleton] at hb
    subst hb
    decide
theorem room5 : roomA 5 10 [e1, e2] = 15 := by
  show (if (5 : Int) ≤ 12 - 10 then (10 : Int) else if (5 : Int) ≤ 20 - max 10 (12 + 3) then max 10 (12 + 3) else max (max 10 (12 + 3)) (20 + 10)) = 15
  decide
theorem room6 : roomA 6 10 [e1, e2] = 30 := by
  show (if (6 : Int) ≤ 12 - 10 then (10 : Int) else if (6 : Int) ≤ 20 - max 10 (12 + 3) then max 10 (12 + 3) else max (max 10 (12 + 3)) (20 + 10)) = 30
  decide
theorem roomE {n a : Int} {w : World} {e : Ending} {w' : World} (h : RoomEnd 10 100 n [e1, e2] w e w') (hn : 1 ≤ n) (ha : roomA n 10 [e1, e2] = a) (h2 : ¬ (100 - a < n)) :
    e = .returned (.tuple #[.int .i64 a, .bool true]) ∧ Below w.heap.size w w' := by
  rcases h with ⟨h, _⟩ | ⟨_, l', hp, hs, h, hb⟩
  · omega
  · obtain rfl := sorted2 hp hs
    rw [ha] at h
    rcases h with ⟨h, _⟩ | ⟨_, rfl⟩
    · exact absurd h h2
    · exact ⟨rfl, hb⟩
theorem zs_size (k : Nat) : (zs k).size = k := by
  unfold zs
  rw [size_ofL, List.length_replicate]
theorem e1_ok : extOk 1 (zs 16) 3 576 9 (zs 32) (zs 32) 12 = true := by
  unfold extOk hdrOk
  rw [zs_size, zs_size]
  decide
theorem catS_size {id : Int} {sa : ByteArray} {n bs raw : Int} {ro ta : ByteArray} {ba : Int} (h : extOk id sa n bs raw ro ta ba = true) : (catS id sa n bs raw ro ta ba).size = 104 := by
  have := allS_size (extOk_hdr h)
  unfold catS
  rw [ByteArray.size_append, ByteArray.size_append, this, size_ofL, be_length]
  rfl
end Go.Proofs.YtachmdfabnigpaaDoor
