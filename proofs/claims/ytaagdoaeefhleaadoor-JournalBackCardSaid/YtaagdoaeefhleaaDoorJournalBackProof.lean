/-
  JournalBack: of any api.Extent, any []int, any int and any byte the law returns true (23.2): a record that is put is taken as it was, whatever zeros stand behind it, and not with anything else there. The card.
-/
import Derived.Test.YtaagdoaeefhleaaDoorP2
import Derived.MakeChecks
import Derived.LaidLaws
import Derived.Handed
import Derived.Lay
import Derived.LaidOnce
import Derived.SevenTiedAt
import Derived.Test.YtaagdoaeefhleaaDoorCards
import Derived.Test.YtaagdoaeefhleaaDoorTie
import Derived.Test.YtaagdoaeefhleaaDoorP15
import Derived.Test.YtaagdoaeefhleaaDoorFrameY
namespace Go.Proofs.YtaagdoaeefhleaaDoor
open Go.ChangeShapes Go.WideShapes Go.ChangeAt Go.RowKit

set_option maxRecDepth 100000 in
theorem journalBack_lifted (os : Os) (started : os.Started) (H : Type) (enc : TypeId × Value → H) :
    ReturnsInHanded {} Tryd.checked os 3 .any (fun w args => (Rows.journalBackSpec.pre enc Tryd.prog Tryd.f3 [] false w args ∧ laidMetH Tryd.prog Rows.journalBackRow.laid w) ∧ sizedMet enc Tryd.prog Tryd.f3 (OpenSpec.ofChange Rows.journalBackSpec) false w args) (Rows.journalBackSpec.post enc Tryd.prog Tryd.f3 false true false false) := by
  refine returnsInHanded_of_change_and (C := Tryd.checked) (X := fun w _ => laidMetH Tryd.prog Rows.journalBackRow.laid w) (fun _ _ _ hh h => h.of_heap hh) Tryd.own started (by kernel_rfl) Tryd.func3
    (ChangeSpec.witness_shaped (enc := enc) (C := Tryd.checked) (os := os) (X := fun w _ => laidMetH Tryd.prog Rows.journalBackRow.laid w) false (World.laidAll Tryd.prog os Rows.journalBackRow.laid) #[.agg #[.int .i64 0, .string ⟨#[]⟩, .int .i64 0, .int .i64 0, .int .i64 0, .string ⟨#[]⟩, .string ⟨#[]⟩, .int .i64 0], .slice none 0 0, .int .i64 0, .int .u8 0] 8 (World.laidAll_os _ _ _)
      (World.shaped_of_ZipB (by kernel_rfl) (by kernel_rfl)) (by kernel_rfl) (by kernel_rfl) (by kernel_rfl)
      (by rw [MakeChecks.laidMetH_plain _ _ _ (by kernel_rfl)]; exact laidMet_laidAll _ (by kernel_rfl) (by kernel_rfl))) ?_
  intro W base args ds gs before hval0 hW hcnd hsz0 hLaid hholds
  have hval : ∀ (j : Nat) t v, Tryd.f3.params[j]? = some t → args[j]? = some v → Value.okWide Tryd.prog W .any base t v := hval0
  have hW' := hW
  obtain ⟨p, q, hA0, hV, rfl, hfz, hnd⟩ := hW
  have hA : DataW.TrodAll enc Tryd.prog W 0 (fun _ => true) true Tryd.f3.params.toList args.toList ds p := hA0
  have hsz : (DataW.weightsEach Tryd.prog (Tryd.f3.params.toList ++ Rows.journalBackSpec.plain.varTypes Tryd.prog) (ds ++ gs)).all (· ≤ reachBytes) = true := hsz0
  rw [Tryd.params3] at hA hval hsz
  obtain ⟨v0, v1, v2, v3, d0, d1, d2, d3, p0, p1, p2, p3, rfl, rfl, rfl, h0, h1, h2, h3⟩ := trodAll_four hA
  obtain ⟨rfl, rfl⟩ := trodVars_none hV
  clear hA0 hval0 hcnd hfz hnd hsz0 hLaid hholds
  simp only [List.append_nil] at hW'
  have hlt0 : ∀ x ∈ p0, x.block < W.heap.size := fun x hx => by simpa using hW'.lt x (by simp [hx])
  have hlt1 : ∀ x ∈ p1, x.block < W.heap.size := fun x hx => by simpa using hW'.lt x (by simp [hx])
  have hlt2 : ∀ x ∈ p2, x.block < W.heap.size := fun x hx => by simpa using hW'.lt x (by simp [hx])
  have hlt3 : ∀ x ∈ p3, x.block < W.heap.size := fun x hx => by simpa using hW'.lt x (by simp [hx])
  obtain ⟨id0, sa0, nn0, bs0, raw0, ro0, ta0, ba0, rfl⟩ := arg_extent (hval 0 25 v0 rfl rfl) h0 hsz 0 rfl rfl
  obtain ⟨A1, n1, c1, xs1, rfl, hx1, hn1, hc1, hr1⟩ := arg_ints (hval 1 26 v1 rfl rfl) h1 hsz 1 rfl rfl
  obtain ⟨x2, rfl, l2, u2⟩ := arg_int (hval 2 3 v2 rfl rfl) h2 hsz 2 rfl rfl
  obtain ⟨c3, rfl, l3, u3⟩ := arg_byte (hval 3 5 v3 rfl rfl) h3 hsz 3 rfl rfl
  refine (journalBack_walk id0 sa0 nn0 bs0 raw0 ro0 ta0 ba0 A1 n1 c1 xs1 x2 c3 W  hx1 hr1 hn1 hc1 l2 u2 l3 u3).mono fun e W' ⟨he, hb⟩ => ?_
  subst he
  exact ⟨_, rfl, yes_post hW' rfl rfl rfl rfl rfl (trodAll_mk4 (Below.trod Tryd.laidOut (by kernel_rfl) (of_decide_eq_true (by kernel_rfl)) h0 hb (hlt0)) (Below.trod Tryd.laidOut (by kernel_rfl) (of_decide_eq_true (by kernel_rfl)) h1 hb (hlt1)) (Below.trod Tryd.laidOut (by kernel_rfl) (of_decide_eq_true (by kernel_rfl)) h2 hb (hlt2)) (Below.trod Tryd.laidOut (by kernel_rfl) (of_decide_eq_true (by kernel_rfl)) h3 hb (hlt3))) (by first | rfl | simp only [List.append_assoc]) hb⟩

theorem journalBack_holds : Rows.JournalBackSaid :=
  OpenClaim.holds_of_wide 3 Tryd.f3 rfl rfl rfl rfl rfl rfl rfl ⟨rfl, rfl, rfl, rfl, rfl⟩ rfl rfl rfl rfl rfl (by kernel_rfl) Tryd.func3 (by kernel_rfl)
    (of_decide_eq_true (by kernel_rfl)) (by unfold Func.isWrapper; first | (rw [if_pos (by decide +kernel)]; kernel_rfl) | (rw [if_neg (by decide +kernel)]; exact ⟨rfl, rfl⟩))
    (fun os started H enc _ => journalBack_lifted os started H enc)
theorem journalBack_card : Rows.JournalBackCardSaid :=
  Claim7.holds_tied_plain_at .later [] [.data, .pinned] true (true, "49d0e26fc6c59f02514368563d12ee006f440513ae5f5a4810744a33919c31db") false journalBack_holds (fun _ h => by cases h) (by kernel_rfl) (fun _ h => by cases h) journalBack_row_tie rfl ⟨rfl, rfl⟩ (by kernel_rfl) rfl
    (fun f fn hf hfn => by
      obtain rfl : f = 3 := Option.some.inj ((show Tryd.prog.funcNamed "sledge/sledgelaw23.JournalBack" = some 3 by kernel_rfl).symm.trans hf) |>.symm
      obtain rfl : fn = Tryd.f3 := (Option.some.inj (Tryd.func3.symm.trans hfn)).symm
      exact ⟨by kernel_rfl, fun j t ht => by
        rw [Tryd.params3] at ht
        have hm : t ∈ [25, 26, 3, 5] := by simpa using Array.mem_of_getElem? ht
        have hall : ([25, 26, 3, 5].all fun u => !Tryd.prog.wantsStandIn u) = true := by kernel_rfl
        exact (show Tryd.prog.wantsStandIn t = false by simpa using List.all_eq_true.1 hall t hm)⟩)
    (by kernel_rfl)
#print axioms journalBack_card
end Go.Proofs.YtaagdoaeefhleaaDoor
