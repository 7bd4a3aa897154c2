/-
  A catalog's entry is taken back: the plain law, and catalog.Take of it.
-/
import Derived.Test.YtachmdfabnigpaaDoorCatX
import Derived.Test.YtachmdfabnigpaaDoorHdrB
namespace Go.Proofs.YtachmdfabnigpaaDoor
open Go.RowKit

theorem mark_list : (⟨#[83, 76, 71, 49]⟩ : ByteArray).toList = [83, 76, 71, 49] := toList_ofL _
theorem mark_list2 : (⟨#[83, 76, 67, 49]⟩ : ByteArray).toList = [83, 76, 67, 49] := toList_ofL _
theorem allS_list (id : Int) (sa : ByteArray) (n bs raw : Int) (ro ta : ByteArray) :
    (allS id sa n bs raw ro ta).toList = [83, 76, 71, 49] ++ (be id 4 ++ (sa.toList ++ (be n 2 ++ (be bs 4 ++ (be raw 4 ++ (ro.toList ++ ta.toList)))))) := by
  unfold allS hdrS
  simp only [toList_app, toList_ofL, mark_list, List.append_assoc]
theorem catS_list (id : Int) (sa : ByteArray) (n bs raw : Int) (ro ta : ByteArray) (ba : Int) :
    (catS id sa n bs raw ro ta ba).toList = [83, 76, 67, 49] ++ ((allS id sa n bs raw ro ta).toList ++ be ba 2) := by
  unfold catS
  simp only [toList_app, toList_ofL, mark_list2, List.append_assoc]
/-- What stands where in an entry's bytes with others behind. -/
theorem own_parts (id : Int) (sa : ByteArray) (n bs raw : Int) (ro ta : ByteArray) (ba : Int) (x : ByteArray) (hok : extOk id sa n bs raw ro ta ba = true) (s : ByteArray) (hs : s = catS id sa n bs raw ro ta ba ++ x) :
    s.size = 104 + x.size ∧ markB s = true ∧ zeroB s = false ∧ s.extract 104 s.size = x ∧ (s.extract 4 s.size).extract 0 98 = allS id sa n bs raw ro ta ∧ (s.extract 4 s.size).extract 98 (s.extract 4 s.size).size = ofL (be ba 2 ++ x.toList) := by
  have h98 := allS_size (extOk_hdr hok)
  have hl : s.toList = [83, 76, 67, 49] ++ ((allS id sa n bs raw ro ta).toList ++ (be ba 2 ++ x.toList)) := by rw [hs, toList_app, catS_list]; simp only [List.append_assoc]
  have hA : (allS id sa n bs raw ro ta).toList.length = 98 := by rw [size_toList, h98]
  refine ⟨?_, ?_, ?_, ?_, ?_, ?_⟩
  · rw [← size_toList, hl]; simp only [List.length_append, hA, be_length, size_toList, List.length_cons, List.length_nil]; omega
  · rw [mark_is, toList_ext, hl]; rfl
  · unfold zeroB; rw [hl]; rfl
  · refine str_eq ?_
    rw [toList_suf, hl, ← List.append_assoc, ← List.append_assoc]
    exact List.drop_left' (by simp only [List.length_append, hA, be_length, List.length_cons, List.length_nil])
  · refine str_eq ?_
    rw [toList_ext, toList_suf, hl, List.drop_left' (by rfl), List.drop_zero]
    exact List.take_left' (by rw [hA])
  · refine str_eq ?_
    rw [toList_suf, toList_suf, hl, List.drop_left' (by rfl), toList_ofL]
    exact List.drop_left' hA
theorem zeroB_zs (k : Nat) : zeroB (zs k) = true := by
  unfold zeroB zs
  rw [toList_ofL, List.all_eq_true]
  intro x hx
  rw [List.eq_of_mem_replicate hx]; rfl
set_option maxRecDepth 20000 in
theorem back_yes (id : Int) (sa : ByteArray) (n bs raw : Int) (ro ta : ByteArray) (ba : Int) (hok : extOk id sa n bs raw ro ta ba = true) (k : Nat) (hk : k ≤ 255) (s : ByteArray) (hs : catS id sa n bs raw ro ta ba ++ zs k = s) (w : World) :
    Calls Tryd.prog 5 #[.string s] w (TkEnd id sa n bs raw ro ta ba 0 w) := by
  obtain ⟨z, hm, hz, hv, hc, hu⟩ := own_parts id sa n bs raw ro ta ba (zs k) hok s hs.symm
  rw [zs_size] at z
  obtain ⟨_, _, b0, b1⟩ := extOk_num hok
  have hts : (s.extract 4 s.size).size = s.size - 4 := suf_size _ _ (by omega)
  have hus : (ofL (be ba 2 ++ (zs k).toList)).size = 2 + k := by rw [size_ofL, List.length_append, be_length, size_toList, zs_size]
  exact ctake_head s _ (zs k) w (by omega) hz hm (by omega) (show cutT s true = s.extract 4 s.size from rfl) hv (zeroB_zs k) (allS id sa n bs raw ro ta) (ofL (be ba 2 ++ (zs k).toList)) (zs k) ba ⟨by omega, by omega⟩ hc hu (by omega)
    (by rw [← ofL_toList (zs k)]; exact (take_be (k := 2) b0 (by omega) (by omega) (by omega)).trans (by rw [ofL_toList, ofL_toList])) id sa n bs raw ro ta (fun w => htake_own _ id sa n bs raw ro ta (extOk_hdr hok) (allS_list id sa n bs raw ro ta) w) true hok
theorem back_no (id : Int) (sa : ByteArray) (n bs raw : Int) (ro ta : ByteArray) (ba : Int) (hok : extOk id sa n bs raw ro ta ba = true) (k : Nat) (hk : k ≤ 255) (s : ByteArray) (hs : catS id sa n bs raw ro ta ba ++ zs k ++ ⟨#[120]⟩ = s) (w : World) :
    Calls Tryd.prog 5 #[.string s] w (CNo w 2) := by
  have e : s = catS id sa n bs raw ro ta ba ++ (zs k ++ ⟨#[120]⟩) := by rw [← hs]; exact str_eq (by simp only [toList_app, List.append_assoc])
  obtain ⟨z, hm, hz, hv, _, _⟩ := own_parts id sa n bs raw ro ta ba (zs k ++ ⟨#[120]⟩) hok s e
  rw [ByteArray.size_append, zs_size] at z
  have h1 : (⟨#[120]⟩ : ByteArray).size = 1 := rfl
  refine ctake_tail s _ _ w (by omega) hz hm (by omega) rfl hv ?_
  unfold zeroB
  rw [toList_app, List.all_append]
  have : (⟨#[120]⟩ : ByteArray).toList = [120] := toList_ofL _
  rw [this]
  simp
end Go.Proofs.YtachmdfabnigpaaDoor
