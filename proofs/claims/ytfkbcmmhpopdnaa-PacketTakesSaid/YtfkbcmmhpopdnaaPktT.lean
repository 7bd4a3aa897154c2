/-
  The walk of packet.Take: the whole.
-/
import Derived.Test.YtfkbcmmhpopdnaaPktT0
import Derived.Test.YtfkbcmmhpopdnaaPktT2
import Derived.Test.YtfkbcmmhpopdnaaPktT3
import Derived.Test.YtfkbcmmhpopdnaaPktT4
namespace Go.Proofs.Ytfkbcmmhpopdnaa
open Go.RowKit

theorem ptake_any (s : ByteArray) (w : World) (hs : s.size ≤ 1000) : Calls Try.prog 12 #[.string s] w (TakeEnd s w) := by
  obtain ⟨t, c, hc⟩ : ∃ t c, cutP s ⟨#[83, 76, 80, 49]⟩ = (t, c) := ⟨_, _, rfl⟩
  obtain ⟨kind, s1, b1, h1⟩ : ∃ k r b, rdN t (!c) 1 = (k, r, b) := ⟨_, _, _, rfl⟩
  obtain ⟨fr, s2, b2, h2⟩ : ∃ k r b, rdN s1 b1 4 = (k, r, b) := ⟨_, _, _, rfl⟩
  by_cases k1 : kind = 1
  · subst k1
    obtain ⟨x, s3, b3, h3⟩ : ∃ k r b, rdT s2 b2 s2.size = (k, r, b) := ⟨_, _, _, rfl⟩
    exact ptake_1 s t s1 s2 s3 x c b1 b2 b3 fr w hs hc h1 h2 h3
  · by_cases k2 : kind = 2
    · subst k2
      obtain ⟨id, s3, b3, h3⟩ : ∃ k r b, rdN s2 b2 4 = (k, r, b) := ⟨_, _, _, rfl⟩
      obtain ⟨i, s4, b4, h4⟩ : ∃ k r b, rdN s3 b3 2 = (k, r, b) := ⟨_, _, _, rfl⟩
      obtain ⟨x, s5, b5, h5⟩ : ∃ k r b, rdT s4 b4 224 = (k, r, b) := ⟨_, _, _, rfl⟩
      obtain ⟨m, s6, b6, h6⟩ : ∃ k r b, rdN s5 b5 1 = (k, r, b) := ⟨_, _, _, rfl⟩
      obtain ⟨P, s7, b7, h7⟩ : ∃ k r b, rdP m.toNat s6 b6 = (k, r, b) := ⟨_, _, _, rfl⟩
      exact ptake_2 s t s1 s2 s3 s4 s5 s6 s7 x c b1 b2 b3 b4 b5 b6 b7 fr id i m P w hs hc h1 h2 h3 h4 h5 h6 h7
    · by_cases k3 : kind = 3
      · subst k3
        obtain ⟨seq, s3, b3, h3⟩ : ∃ k r b, rdN s2 b2 4 = (k, r, b) := ⟨_, _, _, rfl⟩
        obtain ⟨id, s4, b4, h4⟩ : ∃ k r b, rdN s3 b3 4 = (k, r, b) := ⟨_, _, _, rfl⟩
        obtain ⟨i, s5, b5, h5⟩ : ∃ k r b, rdN s4 b4 2 = (k, r, b) := ⟨_, _, _, rfl⟩
        obtain ⟨n, s6, b6, h6⟩ : ∃ k r b, rdN s5 b5 2 = (k, r, b) := ⟨_, _, _, rfl⟩
        obtain ⟨x, s7, b7, h7⟩ : ∃ k r b, rdT s6 b6 32 = (k, r, b) := ⟨_, _, _, rfl⟩
        exact ptake_3 s t s1 s2 s3 s4 s5 s6 s7 x c b1 b2 b3 b4 b5 b6 b7 fr seq id i n w hs hc h1 h2 h3 h4 h5 h6 h7
      · by_cases k4 : kind = 4
        · subst k4
          obtain ⟨seq, s3, b3, h3⟩ : ∃ k r b, rdN s2 b2 4 = (k, r, b) := ⟨_, _, _, rfl⟩
          obtain ⟨id, s4, b4, h4⟩ : ∃ k r b, rdN s3 b3 4 = (k, r, b) := ⟨_, _, _, rfl⟩
          obtain ⟨x, s5, b5, h5⟩ : ∃ k r b, rdT s4 b4 s4.size = (k, r, b) := ⟨_, _, _, rfl⟩
          exact ptake_4 s t s1 s2 s3 s4 s5 x c b1 b2 b3 b4 b5 fr seq id w hs hc h1 h2 h3 h4 h5
        · obtain ⟨id, s3, b3, h3⟩ : ∃ k r b, rdN s2 b2 4 = (k, r, b) := ⟨_, _, _, rfl⟩
          obtain ⟨x, s4, b4, h4⟩ : ∃ k r b, rdT s3 b3 s3.size = (k, r, b) := ⟨_, _, _, rfl⟩
          exact ptake_0 s t s1 s2 s3 s4 x c b1 b2 b3 b4 kind fr id k1 k2 k3 k4 w hs hc h1 h2 h3 h4
end Go.Proofs.Ytfkbcmmhpopdnaa
