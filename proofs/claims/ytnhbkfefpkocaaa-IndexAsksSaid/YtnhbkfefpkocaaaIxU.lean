/-
  The reference's Archives.
-/
import Derived.Test.YtnhbkfefpkocaaaIxT
namespace Go.Proofs.Ytnhbkfefpkocaaa
open Go.RowKit Go.Sort

/-- A number that is behind all in a list. -/
def Beh (o : List Int) (x : Int) : Prop := ∀ z ∈ o, z < x
/-- The least number behind a list; 0: none. -/
def Lst (o : List Int) (l : List It) (m : Int) : Prop := (m = 0 ∧ ∀ y ∈ l, ¬ Beh o y.id) ∨ (0 < m ∧ Beh o m ∧ (∃ y ∈ l, y.id = m) ∧ ∀ y ∈ l, Beh o y.id → m ≤ y.id)
/-- The answer so far. -/
def ArcR (L : List It) (o : List Int) : Prop := o.Pairwise (· < ·) ∧ (∀ x ∈ o, x ∈ idsI L) ∧ ∀ x ∈ idsI L, x ∈ o ∨ Beh o x
theorem mem_ids {L : List It} {x : Int} : x ∈ idsI L ↔ ∃ y ∈ L, y.id = x := by unfold idsI; rw [List.mem_map]
theorem ArcR.step {L : List It} {o : List Int} {m : Int} (h : ArcR L o) (hm : Lst o L m) (h0 : m ≠ 0) : ArcR L (o ++ [m]) := by
  rcases hm with ⟨h1, _⟩ | ⟨_, hb, ⟨y, hy, hym⟩, hall⟩
  · exact absurd h1 h0
  · refine ⟨List.pairwise_append.2 ⟨h.1, by simp, fun a ha b hbm => by simp at hbm; rw [hbm]; exact hb a ha⟩, fun x hx => ?_, fun x hx => ?_⟩
    · rcases List.mem_append.1 hx with h2 | h2
      · exact h.2.1 x h2
      · simp at h2; rw [h2]; exact mem_ids.2 ⟨y, hy, hym⟩
    · rcases h.2.2 x hx with h2 | h2
      · exact .inl (List.mem_append.2 (.inl h2))
      · obtain ⟨z, hz, rfl⟩ := mem_ids.1 hx
        have := hall z hz h2
        rcases Int.lt_or_eq_of_le this with h3 | h3
        · right
          intro w hw
          rcases List.mem_append.1 hw with h4 | h4
          · exact h2 w h4
          · simp at h4; rw [h4]; exact h3
        · left
          rw [h3]
          simp
theorem ArcR.fin {L : List It} {o : List Int} (h : ArcR L o) (hm : Lst o L 0) : o = arcI L := by
  rcases hm with ⟨_, hall⟩ | ⟨h1, _⟩
  · refine inc_ext o (arcI L) h.1 (arcI_inc L).1 fun x => ?_
    rw [(arcI_inc L).2 x]
    refine ⟨h.2.1 x, fun hx => ?_⟩
    rcases h.2.2 x hx with h2 | h2
    · exact h2
    · obtain ⟨y, hy, rfl⟩ := mem_ids.1 hx
      exact absurd h2 (hall y hy)
  · omega
theorem ArcR.len {L : List It} {o : List Int} (h : ArcR L o) : o.length ≤ L.length := by
  have := inc_len o (idsI L) h.1 h.2.1
  simpa [idsI] using this
theorem Lst.stay {o : List Int} {l : List It} {m : Int} {y : It} (h : Lst o l m) (hy : ¬ Beh o y.id ∨ (m ≠ 0 ∧ m ≤ y.id)) : Lst o (l ++ [y]) m := by
  rcases h with ⟨h1, h2⟩ | ⟨h1, h2, ⟨z, hz, hzm⟩, h3⟩
  · rcases hy with hy | ⟨hy, _⟩
    · refine .inl ⟨h1, fun z hz => ?_⟩
      rcases List.mem_append.1 hz with h | h
      · exact h2 z h
      · simp at h; rw [h]; exact hy
    · exact absurd h1 hy
  · refine .inr ⟨h1, h2, ⟨z, List.mem_append.2 (.inl hz), hzm⟩, fun u hu hb => ?_⟩
    rcases List.mem_append.1 hu with h | h
    · exact h3 u h hb
    · simp at h
      rcases hy with hy | ⟨_, hy⟩
      · rw [h] at hb; exact absurd hb hy
      · rw [h]; exact hy
theorem Lst.take {o : List Int} {l : List It} {m : Int} {y : It} (h : Lst o l m) (hb : Beh o y.id) (hp : 0 < y.id) (hy : m = 0 ∨ y.id < m) : Lst o (l ++ [y]) y.id := by
  refine .inr ⟨hp, hb, ⟨y, by simp, rfl⟩, fun u hu hub => ?_⟩
  rcases List.mem_append.1 hu with hm | hm
  · rcases h with ⟨_, h2⟩ | ⟨h1, _, _, h3⟩
    · exact absurd hub (h2 u hm)
    · have := h3 u hm hub
      rcases hy with hy | hy <;> omega
  · simp at hm; rw [hm]; exact Int.le_refl _
theorem beh_last {o : List Int} {q : Nat} {z : Int} (hi : o.Pairwise (· < ·)) (hl : o.length = q + 1) (hz : o[q]? = some z) (x : Int) : Beh o x ↔ z < x := by
  constructor
  · exact fun h => h z (List.mem_of_getElem? hz)
  · intro h w hw
    obtain ⟨i, hi2⟩ := List.mem_iff_getElem?.1 hw
    have hiq : i < o.length := (List.getElem?_eq_some_iff.1 hi2).1
    rcases Nat.lt_or_ge i q with h1 | h1
    · have := List.pairwise_iff_getElem.1 hi i q hiq (by omega) h1
      rw [(List.getElem?_eq_some_iff.1 hi2).2, (List.getElem?_eq_some_iff.1 hz).2] at this
      omega
    · have : i = q := by omega
      rw [this, hz] at hi2
      cases hi2
      exact h
def lOfI : Value → Nat
  | .slice _ n _ => n
  | _ => 0

set_option maxRecDepth 20000 in
set_option maxHeartbeats 8000000 in
theorem rarc_any (L : List It) (A : Option Addr) (n c : Nat) (hn : L.length = n) (hl : n ≤ 1000000) (hp : ∀ y ∈ L, 0 < y.id) (w : World) (hr : Rd w A (itf L)) :
    Calls Try.prog 30 #[.slice A n c] w (IntsE w (arcI L)) := by
  have HN := Lib.hid (And.intro hn hp)
  have HR := Lib.hid hr
  have mixed : Try.prog.follows Departure.mixedOrders = true := by kernel_rfl
  clear hn hr hp
  go_enter Try.func30, Try.ntmps30
  go_wp2_with fail
  go_loopw [3] (fun vo wo => ∃ (k : Nat) (B : Option Addr) (d : Nat) (o : List Int), vo = .slice B k d ∧ k ≤ n ∧ k ≤ d ∧ Hid (o.length = k ∧ True) ∧ Hid (ArcR L o) ∧ Hid (wo.ownsRow w.heap.size 3 1 (.slice B k d) k (o.map (Value.int .i64))) ∧ Hid (d ≤ maxLen ∧ Rd wo B (o.map (Value.int .i64))) ∧ Hid (Below w.heap.size w wo)) (fun vo _ => n + 1 - lOfI vo)
  case atStart => exact ⟨0, none, 0, [], rfl, by omega, by omega, Lib.hid ⟨rfl, trivial⟩, Lib.hid ⟨List.Pairwise.nil, by simp, fun x _ => .inr (fun z hz => by simp at hz)⟩, Lib.hid ⟨rfl, Or.inl ⟨rfl, rfl⟩⟩, Lib.hid ⟨by unfold maxLen; omega, Rd.nil _ _⟩, Lib.hid (Below.refl _ _)⟩
  case round =>
    obtain ⟨wo, rfl⟩ : ∃ wo, wo = wr := ⟨_, rfl⟩
    obtain ⟨k, B, d, o, rfl, hkn, hkd, HK, HA, HO, HRo, HB⟩ := hrel
    go_wp2_with fail
    go_loopw [4, 5] (fun vm vi wr => ∃ (i : Nat) (m : Int), vi = .int .i64 (i : Nat) ∧ vm = .int .i64 m ∧ i ≤ n ∧ Hid (Lst o (L.take i) m) ∧ Hid (∃ q, wr = wo.drewN q)) (fun _ vi _ => n - iOfI vi)
    case atStart => exact ⟨0, 0, rfl, rfl, by omega, Lib.hid (.inl ⟨rfl, by simp⟩), Lib.hid ⟨0, rfl⟩⟩
    case round =>
      obtain ⟨i, m, rfl, rfl, hi, HLs, HW⟩ := hrel
      have hwb : Below wo.heap.size wo wr := by
        obtain ⟨q, hq⟩ := HW.out
        rw [hq]
        exact below_dnS (Below.refl _ _) q
      have HWB := Lib.hid hwb
      clear hwb
      by_cases hin : i < n
      · have hin1 : (i : Int) < (n : Int) := by omega
        obtain ⟨y, hy⟩ : ∃ y, L[i]? = some y := ⟨_, List.getElem?_eq_getElem (by rw [HN.out.1]; exact hin)⟩
        obtain ⟨g, og, rfl, hbl, _, r1, _, _⟩ := ((HR.out.below HB.out).below HWB.out).item hy
        have r1n : ∀ n, (wr.drewN n).cell? ⟨g, og + i * 4 + 1, none⟩ = some (.int .i64 y.id) := fun _ => r1
        have hyp := HN.out.2 y (List.mem_of_getElem? hy)
        have htk : L.take (i + 1) = L.take i ++ [y] := by rw [List.take_add_one, hy]; rfl
        have HY := Lib.hid (And.intro hy (And.intro htk hyp))
        clear hy htk hyp hbl r1
        by_cases hk0 : k = 0
        · subst hk0
          have ho : o = [] := List.eq_nil_of_length_eq_zero HK.out.1
          have HOE := Lib.hid (And.intro (show Beh o y.id by rw [ho]; intro z hz; cases hz) trivial)
          clear ho
          by_cases hm0 : m = 0
          · have e0 : (m == 0) = true := by simp [hm0]
            have HM := Lib.hid (And.intro hm0 trivial)
            clear hm0
            go_wp2_with fail
            go_quiet (fail)
            go_wp2_with fail
            go_round
            case rel => exact ⟨i + 1, y.id, by first | rfl | go_num, rfl, by omega, Lib.hid (by rw [HY.out.2.1]; exact HLs.out.take (HOE.out.1) HY.out.2.2 (.inl HM.out.1)), Lib.hid (by obtain ⟨q, hq⟩ := HW.out; exact ⟨q + nq, by rw [hq, World.drewN_drewN]⟩)⟩
            case measure => simp [iOfI]; omega
          · have e0 : (m == 0) = false := by simp [hm0]
            have HM := Lib.hid (And.intro hm0 trivial)
            clear hm0
            by_cases hlt : y.id < m
            · go_wp2_with fail
              go_quiet (fail)
              go_wp2_with fail
              go_round
              case rel => exact ⟨i + 1, y.id, by first | rfl | go_num, rfl, by omega, Lib.hid (by rw [HY.out.2.1]; exact HLs.out.take (HOE.out.1) HY.out.2.2 (.inr hlt)), Lib.hid (by obtain ⟨q, hq⟩ := HW.out; exact ⟨q + nq, by rw [hq, World.drewN_drewN]⟩)⟩
              case measure => simp [iOfI]; omega
            · go_wp2_with fail
              go_quiet (fail)
              go_wp2_with fail
              go_round
              case rel => exact ⟨i + 1, m, by first | rfl | go_num, rfl, by omega, Lib.hid (by rw [HY.out.2.1]; exact HLs.out.stay (.inr ⟨HM.out.1, by omega⟩)), Lib.hid (by obtain ⟨q, hq⟩ := HW.out; exact ⟨q + nq, by rw [hq, World.drewN_drewN]⟩)⟩
              case measure => simp [iOfI]; omega
        · obtain ⟨q, rfl⟩ : ∃ q, k = q + 1 := ⟨k - 1, by omega⟩
          obtain ⟨z, hz⟩ : ∃ z, o[q]? = some z := ⟨_, List.getElem?_eq_getElem (by rw [HK.out.1]; omega)⟩
          have hbeh := beh_last HA.out.1 HK.out.1 hz y.id
          obtain ⟨gb, ob, hBB, hcz⟩ := rd_intX (HRo.out.2.below HWB.out) q (by rw [HK.out.1]; omega)
          rw [List.getD_eq_getElem?_getD, hz] at hcz
          have hczn : ∀ n, (wr.drewN n).cell? ⟨gb, ob + q, none⟩ = some (.int .i64 z) := fun _ => hcz
          have HBE := Lib.hid (And.intro hbeh trivial)
          have hwq : IntKind.i64.wrap (q : Int) = (q : Int) := by rw [IntKind.wrap_i64]; omega
          have hkz : (((q + 1 : Nat) : Int) == 0) = false := by simp; omega
          have hkz2 : ((q : Int) + 1 == 0) = false := by simp; omega
          subst hBB
          clear hz hbeh hcz hk0
          by_cases hzy : z < y.id
          · by_cases hm0 : m = 0
            · have e0 : (m == 0) = true := by simp [hm0]
              have HM := Lib.hid (And.intro hm0 trivial)
              clear hm0
              go_wp2_with fail
              go_quiet (fail)
              go_wp2_with fail
              go_round
              case rel => exact ⟨i + 1, y.id, by first | rfl | go_num, rfl, by omega, Lib.hid (by rw [HY.out.2.1]; exact HLs.out.take (HBE.out.1.2 hzy) HY.out.2.2 (.inl HM.out.1)), Lib.hid (by obtain ⟨q, hq⟩ := HW.out; exact ⟨q + nq, by rw [hq, World.drewN_drewN]⟩)⟩
              case measure => simp [iOfI]; omega
            · have e0 : (m == 0) = false := by simp [hm0]
              have HM := Lib.hid (And.intro hm0 trivial)
              clear hm0
              by_cases hlt : y.id < m
              · go_wp2_with fail
                go_quiet (fail)
                go_wp2_with fail
                go_round
                case rel => exact ⟨i + 1, y.id, by first | rfl | go_num, rfl, by omega, Lib.hid (by rw [HY.out.2.1]; exact HLs.out.take (HBE.out.1.2 hzy) HY.out.2.2 (.inr hlt)), Lib.hid (by obtain ⟨q, hq⟩ := HW.out; exact ⟨q + nq, by rw [hq, World.drewN_drewN]⟩)⟩
                case measure => simp [iOfI]; omega
              · go_wp2_with fail
                go_quiet (fail)
                go_wp2_with fail
                go_round
                case rel => exact ⟨i + 1, m, by first | rfl | go_num, rfl, by omega, Lib.hid (by rw [HY.out.2.1]; exact HLs.out.stay (.inr ⟨HM.out.1, by omega⟩)), Lib.hid (by obtain ⟨q, hq⟩ := HW.out; exact ⟨q + nq, by rw [hq, World.drewN_drewN]⟩)⟩
                case measure => simp [iOfI]; omega
          · go_wp2_with fail
            go_quiet (fail)
            go_wp2_with fail
            go_round
            case rel => exact ⟨i + 1, m, by first | rfl | go_num, rfl, by omega, Lib.hid (by rw [HY.out.2.1]; exact HLs.out.stay (.inl fun h => by have := HBE.out.1.1 h; omega)), Lib.hid (by obtain ⟨q, hq⟩ := HW.out; exact ⟨q + nq, by rw [hq, World.drewN_drewN]⟩)⟩
            case measure => simp [iOfI]; omega
      · obtain rfl : i = n := by omega
        have htk : L.take i = L := List.take_of_length_le (by rw [HN.out.1]; omega)
        have hls : Lst o L m := by have := HLs.out; rwa [htk] at this
        have hin1 : ¬ ((i : Int) < (i : Int)) := by omega
        have how := own_belowT HO.out HWB.out
        have HL2 := Lib.hid (And.intro hls (And.intro how (And.intro (HRo.out.2.below HWB.out) (And.intro (bl HB.out HWB.out) (bl HB.out HWB.out).size))))
        clear htk hls how
        by_cases hm0 : m = 0
        · subst hm0
          have he := HA.out.fin HL2.out.1
          go_wp2_with fail
          go_ret
          exact ⟨B, d, by rw [← he, HK.out.1]; rfl, by rw [← he, HK.out.1]; exact hkd, HRo.out.1, by rw [← he]; exact HL2.out.2.2.1, HL2.out.2.2.2.1⟩
        · have e0 : (m == 0) = false := by simp [hm0]
          have hst := HA.out.step HL2.out.1 hm0
          have hlen := hst.len
          have HST := Lib.hid (And.intro hst hlen)
          clear hst hlen hm0
          go_wp2_with (at_builtin; go_must (refine wpList_append_new _ rfl (.tmp 52) (.tmp 54) 63 rfl w.heap.size 3 1 8 el_intX _ _ _ HL2.out.2.1 (by rfl) _ (by rfl) rfl (by intro u hu; simp at hu; subst hu; rfl) (by unfold maxLen; omega) (by omega) HL2.out.2.2.2.2 ?_); intro v5 w5 ho5 hb5)
          obtain ⟨_, B5, d5, rfl, h51, h52, h53⟩ := Sl.own ho5
          have hl1 : (o ++ [m]).length = k + 1 := by rw [List.length_append, HK.out.1]; rfl
          have hmap : (o ++ [m]).map (Value.int .i64) = o.map (Value.int .i64) ++ [.int .i64 m] := by rw [List.map_append]; rfl
          have H6 := Lib.hid (And.intro (show w5.ownsRow w.heap.size 3 1 (.slice B5 (k + 1) d5) (k + 1) ((o ++ [m]).map (Value.int .i64)) by rw [hmap]; exact ho5) (And.intro (show Rd w5 B5 ((o ++ [m]).map (Value.int .i64)) by rw [hmap]; exact h53) (And.intro (HL2.out.2.2.2.1.trans hb5) (And.intro hl1 (show k + 1 ≤ i by have := HST.out.2; rw [hl1, HN.out.1] at this; exact this)))))
          clear ho5 hb5 h53 hl1 hmap
          first
            | (go_round
               case rel => exact ⟨k + 1, B5, d5, o ++ [m], rfl, H6.out.2.2.2.2, h51, Lib.hid ⟨H6.out.2.2.2.1, trivial⟩, Lib.hid HST.out.1, Lib.hid H6.out.1, Lib.hid ⟨h52, H6.out.2.1⟩, Lib.hid H6.out.2.2.1⟩
               case measure => have := H6.out.2.2.2.2; simp [lOfI]; omega)
            | exact ⟨⟨k + 1, B5, d5, o ++ [m], rfl, H6.out.2.2.2.2, h51, Lib.hid ⟨H6.out.2.2.2.1, trivial⟩, Lib.hid HST.out.1, Lib.hid H6.out.1, Lib.hid ⟨h52, H6.out.2.1⟩, Lib.hid H6.out.2.2.1⟩, by have := H6.out.2.2.2.2; simp [lOfI]; omega⟩
end Go.Proofs.Ytnhbkfefpkocaaa
