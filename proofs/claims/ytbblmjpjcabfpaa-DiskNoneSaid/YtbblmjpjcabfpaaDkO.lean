/-
  The law DiskNone's walk.
-/
import Derived.Test.YtbblmjpjcabfpaaDkN
import Derived.Test.YtbblmjpjcabfpaaFrame
namespace Go.Proofs.Ytbblmjpjcabfpaa
open Go.RowKit Go.Maps

set_option maxRecDepth 100000 in
set_option maxHeartbeats 4000000 in
theorem diskNone_walk (i : Int) (s : ByteArray) (w : World) (l0 : -9223372036854775808 ≤ i) (u0 : i ≤ 9223372036854775807) (z1 : s.size ≤ 140737488351232) :
    Calls Try.prog 7 #[.int .i64 i, .string s] w (Yes w) := by
  unfold Yes
  clear l0 u0 z1
  go_enter Try.func7, Try.ntmps7
  go_wp2_with fail
  (with_reducible refine (none_read w i).mono ?_)
  rintro e w1 ⟨rfl, b1⟩
  go_wp2_with fail
  (with_reducible refine (none_fuse w1 i).mono ?_)
  rintro e w2 ⟨rfl, b2⟩
  go_wp2_with fail
  (with_reducible refine (none_crash w2 i).mono ?_)
  rintro e w3 ⟨rfl, b3⟩
  go_wp2_with fail
  (with_reducible refine (none_write w3 i s).mono ?_)
  rintro e w4 ⟨rfl, b4⟩
  go_wp2_with fail
  (with_reducible refine (none_sync w4).mono ?_)
  rintro e w5 ⟨rfl, b5⟩
  go_wp2_with fail
  (with_reducible refine (none_len w5).mono ?_)
  rintro e w6 ⟨rfl, b6⟩
  go_wp2_with fail
  (with_reducible refine (none_dead w6).mono ?_)
  rintro e w7 ⟨rfl, b7⟩
  go_wp2_with fail
  (with_reducible refine (none_uns w7).mono ?_)
  rintro e w8 ⟨rfl, b8⟩
  go_wp2_with fail
  (with_reducible refine (none_clone w8).mono ?_)
  rintro e w9 ⟨rfl, b9⟩
  go_wp2_with fail
  (with_reducible refine (awake_any w9).mono ?_)
  rintro e w10 ⟨rfl, b10⟩
  go_wp2_with fail
  go_ret
  exact ⟨rfl, bl (bl (bl (bl (bl (bl (bl (bl (bl b1 b2) b3) b4) b5) b6) b7) b8) b9) b10⟩
end Go.Proofs.Ytbblmjpjcabfpaa
