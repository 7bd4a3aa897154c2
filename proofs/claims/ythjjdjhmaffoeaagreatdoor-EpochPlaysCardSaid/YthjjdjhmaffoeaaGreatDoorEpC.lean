/-
  Epochs: the plain law; the law's example.
-/
import Derived.Test.YthjjdjhmaffoeaaGreatDoorEpB
import Derived.Test.YthjjdjhmaffoeaaGreatDoorDkL
namespace Go.Proofs.YthjjdjhmaffoeaaGreatDoor
open Go.RowKit

/-- The sector of a number; 0: a blank one. -/
def encS (k : Nat) : ByteArray := if k = 0 then fillS ⟨#[]⟩ else fillS (textS k)
theorem fill_list (s : ByteArray) : (fillS s).toList = s.toList ++ List.replicate (256 - s.size) 0 := by unfold fillS; rw [toList_ofL]
theorem textS_list (n : Int) : (textS n).toList = markL ++ be n 4 := by unfold textS; rw [toList_ofL]
theorem encS_last (k : Nat) (hk : k ≤ 4294967295) : lastF (encS k) = ((k : Int), 0) := by
  by_cases h0 : k = 0
  · subst h0
    have e : (encS 0).toList = List.replicate 256 0 := by
      unfold encS
      rw [if_pos rfl, fill_list, toList_nil]
      rfl
    have hm : epM (encS 0) = false := by unfold epM; rw [e]; rfl
    have hz : zeroB (encS 0) = true := by
      unfold zeroB
      rw [e, List.all_eq_true]
      intro x hx
      rw [List.mem_replicate] at hx
      rw [hx.2]; rfl
    unfold lastF
    rw [hm, hz]
    rfl
  · have e : (encS k).toList = markL ++ (be (k : Int) 4 ++ List.replicate 248 0) := by
      unfold encS
      rw [if_neg h0, fill_list, textS_list, textS_size, List.append_assoc]
    have hm : epM (encS k) = true := by
      unfold epM Lib.hasPrefix
      rw [e, List.isPrefixOf_iff_prefix]
      exact List.prefix_append _ _
    have hn : epN (encS k) = k := by
      unfold epN
      rw [e, List.drop_left' (show markL.length = 4 from rfl), List.take_left' (be_length _ 4)]
      have := num_be (k : Int) 4
      rw [show (256 : Int) ^ 4 = 4294967296 by decide] at this
      omega
    have hz : epZ (encS k) = true := by
      unfold epZ
      rw [e, ← List.append_assoc, List.drop_left' (by rw [List.length_append, be_length]; rfl), List.all_eq_true]
      intro x hx
      rw [List.mem_replicate] at hx
      rw [hx.2]; rfl
    unfold lastF
    rw [hm, if_pos rfl, if_neg (by rw [hn, hz]; simp [h0]), hn]
theorem encS_size (k : Nat) : (encS k).size = 256 := by
  unfold encS
  split
  · exact fillS_size (by decide)
  · exact fillS_size (by rw [textS_size]; omega)
/-- A disk that is on, a sector of which holds a number for sure. -/
structure Ep (S : St) (n i k : Nat) : Prop where
  ok : S.Ok n
  on : S.dead = false
  hi : i < n
  ho : S.old[i]? = some (encS k)
  hl : S.lst[i]? = some (encS k)
/-- It holds a number, or the next one. -/
structure Wk (S : St) (n i k : Nat) : Prop where
  ok : S.Ok n
  hi : i < n
  ho : S.old[i]? = some (encS k)
  hl : S.lst[i]? = some (encS k) ∨ S.lst[i]? = some (encS (k + 1))
theorem Ep.wk {S : St} {n i k : Nat} (h : Ep S n i k) : Wk S n i k := ⟨h.ok, h.hi, h.ho, .inl h.hl⟩
theorem Ep.may {S : St} {n i k : Nat} (h : Ep S n i k) : S.may i = 0 := by rw [St.may_ok h.ok (by omega) (by have := h.hi; omega), h.on]; rfl
theorem Ep.rd {S : St} {n i k : Nat} (h : Ep S n i k) : S.rd i = (encS k, 0) := by
  unfold St.rd
  rw [h.may, if_pos rfl, Int.toNat_natCast, h.hl]
  rfl
theorem Ep.last {S : St} {n i k : Nat} (h : Ep S n i k) (hk : k ≤ 4294967295) : S.last i = ((k : Int), 0) := by
  unfold St.last
  rw [h.rd, if_pos rfl]
  exact encS_last k hk
theorem encS_succ (k : Nat) : encS (k + 1) = fillS (textS ((k : Int) + 1)) := by
  unfold encS
  rw [if_neg (by omega)]
  rfl
theorem Ep.fuseTo {S : St} {n i k : Nat} (h : Ep S n i k) (f : Int) : Ep (S.setFuse f) n i k ∧ (S.setFuse f).fuse = max f (-1) := by
  have e : S.setFuse f = { S with fuse := max f (-1) } := by unfold St.setFuse; rw [h.on]; rfl
  have hok := h.ok.setFuse f
  rw [e] at hok ⊢
  exact ⟨⟨hok, h.on, h.hi, h.ho, h.hl⟩, rfl⟩
/-- The next number: told, and kept for sure; or the power is gone. -/
theorem Ep.next {S : St} {n i k : Nat} (h : Ep S n i k) (hk : k < 4294967295) :
    ((S.next i).2.1 = (k : Int) + 1 ∧ (S.next i).2.2 = 0 ∧ Ep (S.next i).1 n i (k + 1) ∧ (S.next i).1.fuse = burn (burn S.fuse)) ∨
    ((S.next i).2.1 = 0 ∧ (S.next i).2.2 = 7 ∧ Wk (S.next i).1 n i k ∧ 0 ≤ S.fuse) := by
  have hl := h.last (by omega)
  have hm := h.may
  have hN : S.next i = (if (S.wr i (textS ((k : Int) + 1))).2 ≠ 0 then ((S.wr i (textS ((k : Int) + 1))).1, 0, (S.wr i (textS ((k : Int) + 1))).2)
      else if (S.wr i (textS ((k : Int) + 1))).1.sync.2 ≠ 0 then ((S.wr i (textS ((k : Int) + 1))).1.sync.1, 0, (S.wr i (textS ((k : Int) + 1))).1.sync.2)
      else ((S.wr i (textS ((k : Int) + 1))).1.sync.1, (k : Int) + 1, 0)) := by
    unfold St.next
    rw [hl, if_neg (by simp), if_neg (by simp only; omega)]
  by_cases hf : S.fuse = 0
  · have e := St.wr_die (s := textS ((k : Int) + 1)) hm (by rw [textS_size]; omega) hf
    rw [hN, e]
    exact .inr ⟨rfl, rfl, ⟨h.ok.die, h.hi, h.ho, .inl h.hl⟩, by omega⟩
  · have e := St.wr_ok (s := textS ((k : Int) + 1)) hm (by rw [textS_size]; omega) hf
    have hok := h.ok.wr i (textS ((k : Int) + 1))
    rw [hN, e]
    rw [e] at hok
    obtain ⟨S1, hS1⟩ : ∃ S1 : St, { S with lst := S.lst.set (i : Int).toNat (fillS (textS ((k : Int) + 1))), fresh := S.fresh.set (i : Int).toNat true, fuse := burn S.fuse } = S1 := ⟨_, rfl⟩
    rw [hS1] at hok ⊢
    simp only at hok ⊢
    have hl1 : S1.lst[i]? = some (encS (k + 1)) := by
      rw [← hS1]
      show (S.lst.set (i : Int).toNat _)[i]? = _
      rw [Int.toNat_natCast, List.getElem?_set_self (by rw [h.ok.ll]; exact h.hi), encS_succ]
    have ho1 : S1.old[i]? = some (encS k) := by rw [← hS1]; exact h.ho
    have hd1 : S1.dead = false := by rw [← hS1]; exact h.on
    have hf1 : S1.fuse = burn S.fuse := by rw [← hS1]
    have hm1 : S1.may 0 = 0 := by rw [St.may_ok hok (by omega) (by have := h.hi; omega), hd1]; rfl
    rw [if_neg (by simp)]
    by_cases hg : S1.fuse = 0
    · rw [St.sync_die hm1 hg]
      refine .inr ⟨rfl, rfl, ⟨hok.die, h.hi, ho1, .inr hl1⟩, ?_⟩
      rw [hf1] at hg
      unfold burn at hg
      have := h.ok.fuse
      omega
    · have e2 := St.sync_ok hm1 hg
      have hok2 := hok.sync
      rw [e2] at hok2 ⊢
      rw [if_neg (by simp)]
      exact .inl ⟨rfl, rfl, ⟨hok2, hd1, h.hi, hl1, hl1⟩, by rw [← hf1]⟩
/-- Behind a crash: the number, or the next one. -/
theorem Wk.crash {S : St} {n i k : Nat} (h : Wk S n i k) (bit : Nat → Bool) : ∃ k', (k' = k ∨ k' = k + 1) ∧ Ep (S.crash bit) n i k' := by
  have hok := h.ok.crash bit
  have hg := kept_get bit S.fresh S.old S.lst 0 i (by rw [h.ok.lf, h.ok.lo]) (by rw [h.ok.ll, h.ok.lo])
  have mk : ∀ k', (kept bit S.fresh S.old S.lst 0)[i]? = some (encS k') → Ep (S.crash bit) n i k' := fun k' h2 => ⟨hok, rfl, h.hi, h2, h2⟩
  rw [h.ho] at hg
  split at hg
  · rcases h.hl with h1 | h1
    · rw [h1] at hg; exact ⟨k, .inl rfl, mk k hg⟩
    · rw [h1] at hg; exact ⟨k + 1, .inr rfl, mk (k + 1) hg⟩
  · exact ⟨k, .inl rfl, mk k hg⟩
theorem Ep.new (n i : Nat) (hi : i < n) : Ep (St.new n) n i 0 := by
  have h : (List.replicate n (fillS ⟨#[]⟩))[i]? = some (encS 0) := by rw [List.getElem?_replicate, if_pos hi]; rfl
  exact ⟨St.Ok.new n, rfl, hi, h, h⟩

set_option maxRecDepth 100000 in
set_option maxHeartbeats 4000000 in
theorem eawake_any (w : World) : Calls Tryz.prog 19 #[] w fun e w' => e = .returned (.bool true) ∧ Below w.heap.size w w' := by
  have N1 := (Ep.new 1 0 (by omega)).next (by omega)
  have hb : burn (burn (-1)) = -1 := by decide
  obtain ⟨a1, a2, E1, F1⟩ : ((St.new 1).next (0 : Nat)).2.1 = ((0 : Nat) : Int) + 1 ∧ ((St.new 1).next (0 : Nat)).2.2 = 0 ∧ Ep ((St.new 1).next (0 : Nat)).1 1 0 (0 + 1) ∧ ((St.new 1).next (0 : Nat)).1.fuse = burn (burn (St.new 1).fuse) := by
    rcases N1 with h | h
    · exact h
    · exact absurd h.2.2.2 (by decide)
  obtain ⟨S1, hS1⟩ : ∃ S1, ((St.new 1).next (0 : Nat)).1 = S1 := ⟨_, rfl⟩
  rw [hS1] at E1 F1
  have F1' : S1.fuse = -1 := F1.trans hb
  have N2 := E1.next (by omega)
  obtain ⟨b1, b2, E2, F2⟩ : (S1.next (0 : Nat)).2.1 = ((0 + 1 : Nat) : Int) + 1 ∧ (S1.next (0 : Nat)).2.2 = 0 ∧ Ep (S1.next (0 : Nat)).1 1 0 (0 + 1 + 1) ∧ (S1.next (0 : Nat)).1.fuse = burn (burn S1.fuse) := by
    rcases N2 with h | h
    · exact h
    · exact absurd h.2.2.2 (by rw [F1']; decide)
  obtain ⟨S2, hS2⟩ : ∃ S2, (S1.next (0 : Nat)).1 = S2 := ⟨_, rfl⟩
  rw [hS2] at E2
  have E2c : Ep (S2.crash (bitOf 0)) 1 0 2 := by
    have hg := kept_get (bitOf 0) S2.fresh S2.old S2.lst 0 0 (by rw [E2.ok.lf, E2.ok.lo]) (by rw [E2.ok.ll, E2.ok.lo])
    rw [E2.ho, E2.hl, ite_self] at hg
    exact ⟨E2.ok.crash _, rfl, by omega, hg, hg⟩
  have N3 := E2c.next (by omega)
  obtain ⟨c1, c2, _, _⟩ : ((S2.crash (bitOf 0)).next (0 : Nat)).2.1 = ((2 : Nat) : Int) + 1 ∧ ((S2.crash (bitOf 0)).next (0 : Nat)).2.2 = 0 ∧ _ := by
    rcases N3 with h | h
    · exact h
    · exact absurd h.2.2.2 (by show ¬ (0:Int) ≤ -1; decide)
  obtain ⟨S3, hS3⟩ : ∃ S3, ((S2.crash (bitOf 0)).next (0 : Nat)).1 = S3 := ⟨_, rfl⟩
  have C1 : Hid (∀ w b g m, DiskAt w b g m (St.new 1) 1 → Calls Tryz.prog 6 #[.pointer (some ⟨b, 0, none⟩), .int .i64 0] w fun e w' => e = .returned (.tuple #[.int .i64 1, .int .i64 0]) ∧ DiskAt w' b g m S1 1 ∧ Keep3 b g m w w') :=
    Lib.hid fun w b g m h => (next_any w b g m _ 1 (0 : Nat) h).mono fun e w' ⟨x, y, z⟩ => ⟨by rw [x, a1, a2]; rfl, by rw [← hS1]; exact y, z⟩
  have C2 : Hid (∀ w b g m, DiskAt w b g m S1 1 → Calls Tryz.prog 6 #[.pointer (some ⟨b, 0, none⟩), .int .i64 0] w fun e w' => e = .returned (.tuple #[.int .i64 2, .int .i64 0]) ∧ DiskAt w' b g m S2 1 ∧ Keep3 b g m w w') :=
    Lib.hid fun w b g m h => (next_any w b g m _ 1 (0 : Nat) h).mono fun e w' ⟨x, y, z⟩ => ⟨by rw [x, b1, b2]; rfl, by rw [← hS2]; exact y, z⟩
  have C3 : Hid (∀ w b g m, DiskAt w b g m (S2.crash (bitOf 0)) 1 → Calls Tryz.prog 6 #[.pointer (some ⟨b, 0, none⟩), .int .i64 0] w fun e w' => e = .returned (.tuple #[.int .i64 3, .int .i64 0]) ∧ DiskAt w' b g m S3 1 ∧ Keep3 b g m w w') :=
    Lib.hid fun w b g m h => (next_any w b g m _ 1 (0 : Nat) h).mono fun e w' ⟨x, y, z⟩ => ⟨by rw [x, c1, c2]; rfl, by rw [← hS3]; exact y, z⟩
  clear N1 N2 N3 a1 a2 E1 F1 F1' hS1 b1 b2 E2 F2 hS2 E2c c1 c2 hS3 hb
  go_enter Tryz.func19, Tryz.ntmps19
  go_wp2_with fail
  (with_reducible refine (new_at w 1 1 rfl (by omega) (by omega)).mono ?_)
  rintro e w1 ⟨b, g, m, rfl, hD, hB, hG, hM, hb1⟩
  have H1 := Lib.hid hD
  have K1 := Lib.hid hb1
  have LB := Lib.hid (And.intro hB (And.intro hG hM))
  clear hD hB hG hM hb1
  go_wp2_with fail
  (with_reducible refine (C1.out w1 b g m H1.out).mono ?_)
  rintro e w2 ⟨rfl, hD, hk⟩
  have H2 := Lib.hid hD
  have K2 := Lib.hid hk
  clear hD hk
  go_wp2_with fail
  (with_reducible refine (C2.out w2 b g m H2.out).mono ?_)
  rintro e w3 ⟨rfl, hD, hk⟩
  have H3 := Lib.hid hD
  have K3 := Lib.hid hk
  clear hD hk
  go_wp2_with fail
  (with_reducible refine (crash_any w3 b g m _ 1 0 H3.out).mono ?_)
  rintro e w4 ⟨rfl, hD, hk⟩
  have H4 := Lib.hid hD
  have K4 := Lib.hid hk
  clear hD hk
  go_wp2_with fail
  (with_reducible refine (C3.out w4 b g m H4.out).mono ?_)
  rintro e w5 ⟨rfl, hD, hk⟩
  have K5 := Lib.hid hk
  clear hD hk
  go_wp2_with fail
  go_ret
  obtain ⟨l1, l2, l3⟩ := LB.out
  exact ⟨rfl, K1.out.trans ((((K2.out.trans K3.out).trans K4.out).trans K5.out).below K1.out.size l1 l2 l3)⟩
end Go.Proofs.YthjjdjhmaffoeaaGreatDoor
