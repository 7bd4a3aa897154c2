/-
  The code's disk: Clone.
-/
import Derived.Test.YthjjdjhmaffoeaaGreatDoorDkL
namespace Go.Proofs.YthjjdjhmaffoeaaGreatDoor
open Go.RowKit Go.Maps Go.Shelf

theorem ownsMap_below {w w' : World} {m n : Nat} {D : DataW Unit} (hM : w.ownsMap Tryz.prog 3 (plainElem Tryz.prog 9) m n D) (hb : Below w.heap.size w w') : w'.ownsMap Tryz.prog 3 (plainElem Tryz.prog 9) m n D :=
  hM.kept (row := none) ⟨hb.os, hb.tape, hb.output, hb.size, fun k hk _ => hb.block k hk⟩ (by simp)
/-- A new disk out of a copied row and a copied map. -/
theorem DiskAt.copied {w w1 : World} {b g m n g' cap : Nat} {cur' : Array Value} {S : St} (h : DiskAt w b g m S n) {m' : Nat} (hG' : Bk w1 g' 9 cur') (hcap : n ≤ cap) (hcur' : cur'.toList.take n = strs S.old)
    (hM : ∀ D : DataW Unit, w.ownsMap Tryz.prog 3 (plainElem Tryz.prog 9) m n D → w1.ownsMap Tryz.prog 3 (plainElem Tryz.prog 9) m' n D) :
    DiskAt (w1.alloc (.cells #[.slice (some ⟨g', 0, none⟩) n cap, .map (some m'), .int .i64 S.fuse, .bool S.dead] 49)) w1.heap.size g' m' S n := by
  obtain ⟨cur, c, D, hB, hG, hcur, hc, hM0, hDS, hkk, hsz, hbg, hok, hn1, hn2, hf⟩ := h
  refine ⟨cur', cap, D, Bk.new w1 _ _, hG'.alloc _, hcur', hcap, (hM D hM0).alloc _, hDS, hkk, hsz, ?_, hok, hn1, hn2, hf⟩
  have := hG'.lt
  omega

end Go.Proofs.YthjjdjhmaffoeaaGreatDoor
