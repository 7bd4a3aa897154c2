/-
  What With keeps. No function in sight.
-/
import Derived.Test.YtnhbkfefpkocaaaIxK
import Derived.Test.YtnhbkfefpkocaaaIxL
namespace Go.Proofs.Ytnhbkfefpkocaaa
open Go.RowKit Go.Sort

theorem sha_size (s : List UInt8) : (ofL (shaW s)).size = 32 := by
  rw [size_ofL]
  unfold shaW
  obtain ⟨a, b, c, d, e, f, g, i, h⟩ := eight (blocks_ok ((s.length + (padW s.length).length) / 64) startW (s ++ padW s.length) start_ok).1
  rw [h]
  rfl
/-- An item as With makes it. -/
def GoodI (y : It) : Prop := okP y.p = 0 ∧ y.p.size ≤ 20000 ∧ 1 ≤ y.id ∧ y.id ≤ 4294967295 ∧ 0 ≤ y.sz ∧ y.sz ≤ 20000 ∧ y.sm.size = 32
def GoodL (L : List It) (n : Nat) : Prop := SrtI L ∧ (∀ y ∈ L, GoodI y) ∧ L.length ≤ n
theorem withL_good (id : Int) (h1 : 1 ≤ id) (h2 : id ≤ 4294967295) : ∀ (fs : List Fl) (L : List It) (n : Nat), GoodL L n → (∀ f ∈ fs, f.1.size ≤ 20000 ∧ f.2.size ≤ 20000) → n + fs.length ≤ 512 →
    (((withL id fs L).2 = 0 ∧ GoodL (withL id fs L).1 (n + fs.length)) ∨ ((withL id fs L).2 = 5 ∧ (withL id fs L).1 = []))
  | [], L, n, hL, _, hn => by
    left
    have h512 : ¬ 512 < L.length := by have := hL.2.2; simp at hn; omega
    unfold withL
    rw [if_neg h512]
    exact ⟨rfl, hL.1, hL.2.1, by have := hL.2.2; simp; omega⟩
  | f :: fs, L, n, hL, hf, hn => by
    unfold withL
    by_cases hok : okP f.1 = 0
    · rw [if_pos hok]
      have hsz := hf f (by simp)
      have hgood : GoodI (itOf id f) := ⟨hok, hsz.1, h1, h2, by show (0 : Int) ≤ ((f.2.size : Nat) : Int); omega, by show ((f.2.size : Nat) : Int) ≤ 20000; omega, sha_size _⟩
      have hL2 : GoodL (putI L (itOf id f)) (n + 1) := by
        refine ⟨putI_srt _ _ hL.1, fun y hy => ?_, ?_⟩
        · rcases putI_mem _ _ hL.1 y hy with h | h
          · exact hL.2.1 y h
          · rw [h]; exact hgood
        · have := putI_len (itOf id f) L hL.1
          have := hL.2.2
          omega
      have ih := withL_good id h1 h2 fs (putI L (itOf id f)) (n + 1) hL2 (fun g hg => hf g (by simp [hg])) (by simp only [List.length_cons] at hn; omega)
      rw [show n + (f :: fs).length = n + 1 + fs.length by simp only [List.length_cons]; omega]
      exact ih
    · rw [if_neg hok]
      right
      have := okP_twoX f.1
      exact ⟨by omega, rfl⟩
theorem withI_good (id : Int) (fs : List Fl) (L : List It) (n : Nat) (hL : GoodL L n) (hf : ∀ f ∈ fs, f.1.size ≤ 20000 ∧ f.2.size ≤ 20000) (hn : n + fs.length ≤ 512) :
    (((withI L id fs).2 = 0 ∧ GoodL (withI L id fs).1 (n + fs.length)) ∨ ((withI L id fs).2 ≠ 0 ∧ (withI L id fs).1 = [])) := by
  unfold withI
  by_cases h : id < 1 ∨ 4294967295 < id
  · rw [if_pos h]
    right
    exact ⟨by simp, rfl⟩
  · rw [if_neg h]
    rcases withL_good id (by omega) (by omega) fs L n hL hf hn with h | ⟨h1, h2⟩
    · exact .inl h
    · exact .inr ⟨by omega, h2⟩
end Go.Proofs.Ytnhbkfefpkocaaa
