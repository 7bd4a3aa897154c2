/-
  The law CatalogRooms: the plain law.
-/
import Derived.Test.YtachmdfabnigpaaCatM
namespace Go.Proofs.Ytachmdfabnigpaa
open Go.RowKit Go.Sort

theorem Free.perm {n a : Int} {l l' : List Ent} (hp : l'.Perm l) : Free n a l' ↔ Free n a l :=
  ⟨fun h x hx => h x (hp.mem_iff.2 hx), fun h x hx => h x (hp.mem_iff.1 hx)⟩
theorem roomA_free (n : Int) (hn : 1 ≤ n) (l : List Ent) (hs : l.Pairwise fun x y => x.ba ≤ y.ba) (a : Int) :
    a ≤ roomA n a l ∧ Free n (roomA n a l) l ∧ ∀ a', a ≤ a' → a' < roomA n a l → ¬ Free n a' l := by
  induction l generalizing a with
  | nil => exact ⟨Int.le_refl _, (fun x hx => absurd hx List.not_mem_nil), fun a' h1 h2 => by have : roomA n a [] = a := rfl; omega⟩
  | cons x l ih =>
    rw [List.pairwise_cons] at hs
    obtain ⟨hx, hl⟩ := hs
    by_cases hc : n ≤ x.ba - a
    · have e : roomA n a (x :: l) = a := by show (if _ then _ else _) = _; rw [if_pos hc]
      rw [e]
      refine ⟨Int.le_refl _, fun y hy => ?_, fun a' h1 h2 => by omega⟩
      rcases List.mem_cons.1 hy with rfl | hy
      · omega
      · have := hx y hy; omega
    · have e : roomA n a (x :: l) = roomA n (max a (x.ba + x.n)) l := by show (if _ then _ else _) = _; rw [if_neg hc]
      rw [e]
      obtain ⟨i1, i2, i3⟩ := ih hl (max a (x.ba + x.n))
      refine ⟨by omega, fun y hy => ?_, fun a' h1 h2 hF => ?_⟩
      · rcases List.mem_cons.1 hy with rfl | hy
        · omega
        · exact i2 y hy
      · by_cases h3 : max a (x.ba + x.n) ≤ a'
        · exact i3 a' h3 h2 fun y hy => hF y (List.mem_cons_of_mem _ hy)
        · exact hF x List.mem_cons_self ⟨by omega, by omega⟩

/-- Both come to the same. -/
theorem rooms_same {frm to n : Int} {L : List Ent} {w : World} {e : Ending} {w' : World} (h : RoomEnd frm to n L w e w') :
    ∃ (a : Int) (ok : Bool), e = .returned (.tuple #[.int .i64 a, .bool ok]) ∧ Below w.heap.size w w' ∧ (∀ (w2 : World) (e2 : Ending) (w3 : World), RoomREnd frm to n L w2 e2 w3 → e2 = .returned (.tuple #[.int .i64 a, .bool ok]) ∧ Below w2.heap.size w2 w3) ∧
      (ok = true → 0 ≤ frm ∧ frm ≤ a ∧ 1 ≤ n ∧ n ≤ to - a ∧ Free n a L) := by
  rcases h with ⟨h0, he, hb⟩ | ⟨h0, l', hp, hs, h, hb⟩
  · exact ⟨0, false, he, hb, fun w2 e2 w3 hR => by
      obtain ⟨h, hb2⟩ := hR
      rcases h with ⟨_, h⟩ | ⟨h, _⟩
      · exact ⟨h, hb2⟩
      · exact absurd h0 h, fun h => by cases h⟩
  · obtain ⟨r1, r2, r3⟩ := roomA_free n (by omega) l' hs frm
    have hF : ∀ a, Free n a l' ↔ Free n a L := fun a => Free.perm hp
    generalize roomA n frm l' = r at *
    rcases h with ⟨hc, he⟩ | ⟨hc, he⟩
    · refine ⟨0, false, he, hb, fun w2 e2 w3 hR => ?_, fun h => by cases h⟩
      obtain ⟨h, hb2⟩ := hR
      rcases h with ⟨h, _⟩ | ⟨_, ⟨a, a1, a2, a3, _, _⟩ | ⟨_, h⟩⟩
      · exact absurd h h0
      · exact absurd ((hF a).2 a3) (r3 a a1 (by omega))
      · exact ⟨h, hb2⟩
    · refine ⟨r, true, he, hb, fun w2 e2 w3 hR => ?_, fun _ => ⟨by omega, r1, by omega, by omega, (hF r).1 r2⟩⟩
      obtain ⟨h, hb2⟩ := hR
      rcases h with ⟨h, _⟩ | ⟨_, ⟨a, a1, a2, a3, a4, h⟩ | ⟨h, _⟩⟩
      · exact absurd h h0
      · have e1 : ¬ a < r := fun hlt => r3 a a1 hlt ((hF a).2 a3)
        have e2 : ¬ r < a := fun hlt => a4 r r1 hlt ((hF r).1 r2)
        obtain rfl : a = r := by omega
        exact ⟨h, hb2⟩
      · exact absurd ((hF r).1 r2) (h r r1 (by omega))
end Go.Proofs.Ytachmdfabnigpaa
