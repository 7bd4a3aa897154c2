/-
  The law CatalogTakes: both Takes come to the same; the walk.
-/
import Derived.Test.YtachmdfabnigpaaDoorCatW
namespace Go.Proofs.YtachmdfabnigpaaDoor
open Go.RowKit

theorem mark_is (s : ByteArray) : markB s = ((s.extract 0 4).toList == [83, 76, 67, 49]) := by
  have e : (s.extract 0 4).toList = s.toList.take 4 := by rw [toList_ext, List.drop_zero]
  rw [e]
  unfold markB Lib.hasPrefix
  rw [Bool.eq_iff_iff, List.isPrefixOf_iff_prefix, List.prefix_iff_eq_take, beq_iff_eq]
  exact ⟨fun h => h.symm, fun h => h.symm⟩
def TkEnd (id : Int) (sa : ByteArray) (n bs raw : Int) (ro ta : ByteArray) (ba k : Int) (w : World) (e : Ending) (w' : World) : Prop := e = .returned (.tuple #[.agg #[.int .i64 id, .string sa, .int .i64 n, .int .i64 bs, .int .i64 raw, .string ro, .string ta, .int .i64 ba], .int .i64 k]) ∧ Below w.heap.size w w'
theorem take_both (s : ByteArray) (hs : s.size ≤ 1000) : ∃ (id : Int) (sa : ByteArray) (n bs raw : Int) (ro ta : ByteArray) (ba k : Int), (∀ w, Calls Tryd.prog 5 #[.string s] w (TkEnd id sa n bs raw ro ta ba k w)) ∧ (∀ w, Calls Tryd.prog 6 #[.string s] w (TkEnd id sa n bs raw ro ta ba k w)) := by
  rcases hz : zeroB s with _ | _
  · by_cases hbad : markB s = false ∨ s.size < 104
    · refine ⟨0, ⟨#[]⟩, 0, 0, 0, ⟨#[]⟩, ⟨#[]⟩, 0, 2, fun w => ctake_nomark s w hs hz hbad, fun w => ctakeR_nomark s w hs hz ?_⟩
      by_cases hl : s.size < 104
      · exact .inl hl
      · rcases hbad with h | h
        · exact .inr ⟨by omega, by rw [← mark_is]; exact h⟩
        · exact absurd h hl
    · have hm : markB s = true := by
        cases h : markB s with
        | true => rfl
        | false => exact absurd (Or.inl h) hbad
      have hl : 104 ≤ s.size := by omega
      have hq : ((s.extract 0 4).toList == [83, 76, 67, 49]) = true := by rw [← mark_is]; exact hm
      obtain ⟨v, hv⟩ : ∃ v, s.extract 104 s.size = v := ⟨_, rfl⟩
      have ht : cutT s true = s.extract 4 s.size := rfl
      rcases hvz : zeroB v with _ | _
      · exact ⟨0, ⟨#[]⟩, 0, 0, 0, ⟨#[]⟩, ⟨#[]⟩, 0, 2, fun w => ctake_tail s _ v w hs hz hm hl ht hv hvz, fun w => ctakeR_tail s v w hs hz hq hl hv hvz⟩
      · have hts : (s.extract 4 s.size).size = s.size - 4 := suf_size _ _ (by omega)
        have hc0 : (s.extract 4 s.size).extract 0 98 = s.extract 4 102 := str_eq (by rw [toList_ext, toList_suf, toList_ext, List.drop_zero])
        have hu : (s.extract 4 s.size).extract 98 (s.extract 4 s.size).size = s.extract 102 s.size := str_eq (by rw [toList_suf, toList_suf, toList_suf, List.drop_drop])
        have hus : (s.extract 102 s.size).size = s.size - 102 := suf_size _ _ (by omega)
        have h98 : (s.extract 4 102).size = 98 := by rw [← size_toList, toList_ext, List.length_take, List.length_drop, size_toList]; omega
        have hbase := takeF_k (s.extract 102 s.size) 2 (by omega) (by omega) (by omega)
        obtain ⟨b, id, sa, n, bs, raw, ro, ta, H1, H2⟩ := head_both (s.extract 4 102) h98
        cases b with
        | false =>
          exact ⟨0, ⟨#[]⟩, 0, 0, 0, ⟨#[]⟩, ⟨#[]⟩, 0, 2, fun w => ctake_nohead s _ v w hs hz hm hl ht hv hvz _ _ _ _ ⟨by omega, by omega⟩ hc0 hu (by omega) hbase (fun w => H1 w),
            fun w => ctakeR_nohead s v w hs hz hq hl hv hvz _ _ _ _ rfl rfl (by omega) hbase (fun w => H2 w)⟩
        | true =>
          rcases hok : extOk id sa n bs raw ro ta (nmH (s.extract 102 s.size) 2) with _ | _
          · exact ⟨0, ⟨#[]⟩, 0, 0, 0, ⟨#[]⟩, ⟨#[]⟩, 0, 2, fun w => ctake_head s _ v w hs hz hm hl ht hv hvz _ _ _ _ ⟨by omega, by omega⟩ hc0 hu (by omega) hbase id sa n bs raw ro ta (fun w => H1 w) false hok,
              fun w => ctakeR_head s v w hs hz hq hl hv hvz _ _ _ _ rfl rfl (by omega) hbase id sa n bs raw ro ta (fun w => H2 w) false hok⟩
          · exact ⟨id, sa, n, bs, raw, ro, ta, nmH (s.extract 102 s.size) 2, 0, fun w => ctake_head s _ v w hs hz hm hl ht hv hvz _ _ _ _ ⟨by omega, by omega⟩ hc0 hu (by omega) hbase id sa n bs raw ro ta (fun w => H1 w) true hok,
              fun w => ctakeR_head s v w hs hz hq hl hv hvz _ _ _ _ rfl rfl (by omega) hbase id sa n bs raw ro ta (fun w => H2 w) true hok⟩
  · exact ⟨0, ⟨#[]⟩, 0, 0, 0, ⟨#[]⟩, ⟨#[]⟩, 0, 8, fun w => ctake_zero s w hs hz, fun w => ctakeR_zero s w hs hz⟩
end Go.Proofs.YtachmdfabnigpaaDoor
