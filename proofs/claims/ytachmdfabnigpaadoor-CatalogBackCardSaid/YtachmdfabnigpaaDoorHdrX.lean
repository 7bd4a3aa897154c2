/-
  Is a text a header's? As one contract for header.Take and for the reference's.
-/
import Derived.Test.YtachmdfabnigpaaDoorHdrR
namespace Go.Proofs.YtachmdfabnigpaaDoor
open Go.RowKit

def hc1 (s : ByteArray) : ByteArray := s.extract 4 s.size
def hc2 (s : ByteArray) : ByteArray := (hc1 s).extract 4 (hc1 s).size
def hc3 (s : ByteArray) : ByteArray := (hc2 s).extract 16 (hc2 s).size
def hc4 (s : ByteArray) : ByteArray := (hc3 s).extract 2 (hc3 s).size
def hc5 (s : ByteArray) : ByteArray := (hc4 s).extract 4 (hc4 s).size
def hc6 (s : ByteArray) : ByteArray := (hc5 s).extract 4 (hc5 s).size
def hc7 (s : ByteArray) : ByteArray := (hc6 s).extract 32 (hc6 s).size
def hc8 (s : ByteArray) : ByteArray := (hc7 s).extract 32 (hc7 s).size
/-- Are a text's parts those of a header? -/
def hdrP (s : ByteArray) : Bool := hdrOk (nmH (hc1 s) 4) ((hc2 s).extract 0 16) (nmH (hc3 s) 2) (nmH (hc4 s) 4) (nmH (hc5 s) 4) ((hc6 s).extract 0 32) ((hc7 s).extract 0 32)
/-- Is a text a header's? -/
def hdrB (s : ByteArray) : Bool := decide (s.size = 98) && ((s.extract 0 4).toList == [83, 76, 71, 49]) && hdrP s
def hdrE (s : ByteArray) : Int := if hdrB s then 0 else 2
theorem parts_fn (s : ByteArray) (hs : s.size = 98) : Parts s (nmH (hc1 s) 4) ((hc2 s).extract 0 16) (nmH (hc3 s) 2) (nmH (hc4 s) 4) (nmH (hc5 s) 4) ((hc6 s).extract 0 32) ((hc7 s).extract 0 32) (hc1 s) (hc2 s) (hc3 s) (hc4 s) (hc5 s) (hc6 s) (hc7 s) (hc8 s) := by
  have z1 : (hc1 s).size = 94 := by unfold hc1; rw [suf_size _ _ (by omega)]; omega
  have z2 : (hc2 s).size = 90 := by unfold hc2; rw [suf_size _ _ (by omega)]; omega
  have z3 : (hc3 s).size = 74 := by unfold hc3; rw [suf_size _ _ (by omega)]; omega
  have z4 : (hc4 s).size = 72 := by unfold hc4; rw [suf_size _ _ (by omega)]; omega
  have z5 : (hc5 s).size = 68 := by unfold hc5; rw [suf_size _ _ (by omega)]; omega
  have z6 : (hc6 s).size = 64 := by unfold hc6; rw [suf_size _ _ (by omega)]; omega
  have z7 : (hc7 s).size = 32 := by unfold hc7; rw [suf_size _ _ (by omega)]; omega
  have z8 : (hc8 s).size = 0 := by unfold hc8; rw [suf_size _ _ (by omega)]; omega
  exact ⟨rfl, z1, takeF_k (hc1 s) 4 (by omega) (by omega) (by omega), z2, rfl, rfl, z3, takeF_k (hc3 s) 2 (by omega) (by omega) (by omega), z4, takeF_k (hc4 s) 4 (by omega) (by omega) (by omega), z5,
    takeF_k (hc5 s) 4 (by omega) (by omega) (by omega), z6, rfl, rfl, z7, rfl, rfl, z8⟩

/-- What of a text's reading as a header is told: the error. -/
def HErr (w : World) (k : Int) (e : Ending) (w' : World) : Prop :=
  ∃ (id : Int) (sa : ByteArray) (n bs raw : Int) (ro ta : ByteArray), e = .returned (.tuple #[.agg #[.int .i64 id, .string sa, .int .i64 n, .int .i64 bs, .int .i64 raw, .string ro, .string ta], .int .i64 k]) ∧ Below w.heap.size w w'
theorem herr_of (s : ByteArray) (w : World) (hs : s.size = 98) (hq : ((s.extract 0 4).toList == [83, 76, 71, 49]) = true) (e : Ending) (w' : World)
    (h : HTEnd w (hdrP s) #[.int .i64 (nmH (hc1 s) 4), .string ((hc2 s).extract 0 16), .int .i64 (nmH (hc3 s) 2), .int .i64 (nmH (hc4 s) 4), .int .i64 (nmH (hc5 s) 4), .string ((hc6 s).extract 0 32), .string ((hc7 s).extract 0 32)] e w') : HErr w (hdrE s) e w' := by
  obtain ⟨rfl, hb⟩ := h
  unfold hdrE hdrB
  rw [decide_eq_true hs, hq]
  cases hp : hdrP s with
  | true => exact ⟨_, _, _, _, _, _, _, rfl, hb⟩
  | false => exact ⟨0, ⟨#[]⟩, 0, 0, 0, ⟨#[]⟩, ⟨#[]⟩, rfl, hb⟩
theorem hbad_of (s : ByteArray) (h : ¬ (s.size = 98 ∧ ((s.extract 0 4).toList == [83, 76, 71, 49]) = true)) : (¬ s.size = 98 ∨ (s.size = 98 ∧ ((s.extract 0 4).toList == [83, 76, 71, 49]) = false)) ∧ hdrE s = 2 := by
  constructor
  · by_cases h1 : s.size = 98
    · exact .inr ⟨h1, by simpa using fun e => h ⟨h1, e⟩⟩
    · exact .inl h1
  · unfold hdrE hdrB
    by_cases h1 : s.size = 98
    · have : ((s.extract 0 4).toList == [83, 76, 71, 49]) = false := by simpa using fun e => h ⟨h1, e⟩
      rw [this, Bool.and_false, Bool.false_and]; rfl
    · rw [decide_eq_false h1, Bool.false_and, Bool.false_and]; rfl
theorem htake_e (s : ByteArray) (k : Int) (hk : hdrE s = k) (w : World) : Calls Tryd.prog 13 #[.string s] w (HErr w k) := by
  subst hk
  by_cases h : s.size = 98 ∧ ((s.extract 0 4).toList == [83, 76, 71, 49]) = true
  · exact (htake_parts s w h.1 h.2 _ _ _ _ _ _ _ _ _ _ _ _ _ _ _ (parts_fn s h.1)).mono fun e w' he => herr_of s w h.1 h.2 e w' he
  · obtain ⟨h1, h2⟩ := hbad_of s h
    rw [h2]
    exact (htake_bad s w h1).mono fun e w' ⟨he, hb⟩ => ⟨0, ⟨#[]⟩, 0, 0, 0, ⟨#[]⟩, ⟨#[]⟩, he, hb⟩
theorem htakeR_e (s : ByteArray) (k : Int) (hk : hdrE s = k) (w : World) : Calls Tryd.prog 17 #[.string s] w (HErr w k) := by
  subst hk
  by_cases h : s.size = 98 ∧ ((s.extract 0 4).toList == [83, 76, 71, 49]) = true
  · exact (htakeR_parts s w h.1 h.2 _ _ _ _ _ _ _ _ _ _ _ _ _ _ _ (parts_fn s h.1)).mono fun e w' he => herr_of s w h.1 h.2 e w' he
  · obtain ⟨h1, h2⟩ := hbad_of s h
    rw [h2]
    exact (htakeR_bad s w h1).mono fun e w' ⟨he, hb⟩ => ⟨0, ⟨#[]⟩, 0, 0, 0, ⟨#[]⟩, ⟨#[]⟩, he, hb⟩
end Go.Proofs.YtachmdfabnigpaaDoor
