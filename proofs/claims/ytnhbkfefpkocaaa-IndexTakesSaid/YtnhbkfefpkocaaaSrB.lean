/-
  The reference's sha: scheduled.
-/
import Derived.Test.YtnhbkfefpkocaaaP8
import Derived.Deep.RegionHeld3
import Derived.Deep.DrawnRows
namespace Go.Proofs.Ytnhbkfefpkocaaa
open Go.RowKit Go.Lib
attribute [local go_sem ↓] Go.wp_at_zero Go.wp_at_succ

/-- The first t words of a block's schedule. -/
def schedT (b : List UInt8) (t : Nat) : List Nat := if t ≤ 16 then first16 (b.take (4 * t)) else schedW (t - 16) (first16 (b.take 64))
theorem schedT_len (b : List UInt8) (t : Nat) (hb : b.length = 64) (ht : t ≤ 64) : (schedT b t).length = t ∧ ∀ x ∈ schedT b t, x < 4294967296 := by
  unfold schedT
  split
  · exact ⟨first16_len t b (by omega), first16_lt _⟩
  · have := sched_ok (W := first16 (b.take 64)) (first16_lt _) (first16_len 16 b (by omega)) (t - 16) (by omega)
    exact ⟨by omega, this.1⟩
theorem schedT_low (b : List UInt8) (t : Nat) (ht : t < 16) (b0 b1 b2 b3 : UInt8) (h0 : b[4 * t]? = some b0) (h1 : b[4 * t + 1]? = some b1) (h2 : b[4 * t + 2]? = some b2) (h3 : b[4 * t + 3]? = some b3) :
    schedT b (t + 1) = schedT b t ++ [word4 b0.toNat b1.toNat b2.toNat b3.toNat] := by
  unfold schedT
  rw [if_pos (by omega), if_pos (by omega)]
  exact first16_step t b b0 b1 b2 b3 h0 h1 h2 h3
theorem schedT_next (b : List UInt8) (t : Nat) (ht : 16 ≤ t) : schedT b (t + 1) = schedT b t ++ [nextW (schedT b t)] := by
  have e : schedT b t = schedW (t - 16) (first16 (b.take 64)) := by
    unfold schedT
    split
    · obtain rfl : t = 16 := by omega
      rfl
    · rfl
  rw [e]
  unfold schedT
  rw [if_neg (by omega), show t + 1 - 16 = (t - 16) + 1 by omega, sched_succ]
theorem schedT_all (b : List UInt8) (hb : b.length = 64) : schedT b 64 = schedW 48 (first16 b) := by
  unfold schedT
  rw [if_neg (by omega), List.take_of_length_le (by omega)]

/-- Append of one element that was just laid in a block of its own, in a region that draws its order. -/
theorem step_append_newS {P : Program} {ops : Array Oper} {o : Oper} {a : Act} {w : World} {K : Act → World → Prop} {Q : Exit → Act → World → Prop} {E : Prop} (hgd : o.guard = none) (s x : Operand) (t : TypeId)
    (ho : o.op = .call { callee := .builtin .append, args := #[s, x], argTypes := #[t, t] })
    (base : Nat) (e : TypeId) (size bytes : Nat) (hel : El P t e size bytes) (v : Value) (n : Nat) (xs : List Value) (hown : w.ownsRow base e size v n xs) (hs : a.eval s = v) (C : Array Value) (ad : Addr)
    (hx : a.eval x = .slice (some ad) 1 1) (hcell : ∀ j u, C.toList[j]? = some u → w.cell? (ad.add j) = some u) (hC : C.size = size) (h1 : ∀ u ∈ C.toList, u.oneCell' = true)
    (h63 : n + 1 ≤ maxLen) (hbytes : (n + 1) * bytes ≤ 140737488355328) (hbase : base ≤ w.heap.size)
    (hK : ∀ v' w', w'.ownsRow base e size v' (n + 1) (xs ++ C.toList) → Below base w w' → K (a.put o.dst v') w') :
    if Region.wanted o (yielded ops a.tmps) = true then Oper.wp P o a w K Q else E := by
  obtain ⟨ht, hsz, i, z, hi, hz, hsize, hby, hzs⟩ := hel
  have hw : Region.wanted o (yielded ops a.tmps) = true := by simp [Region.wanted, hgd]
  rw [if_pos hw]
  obtain ⟨v', w', hrun, r1, r2, r3⟩ := run_append_own (P := P) w base t o.type e i z size bytes ht hi hz hsize hby hzs hsz v n xs hown ad 1 1 C.toList (by simp [hC]) hcell h1 h63 hbytes hbase
  unfold Oper.wp
  simp [execOp, ho, resolve, invoke, builtin, hs, hx, hrun, Result.andThen]
  exact hK v' w' r1 ((Below.refl _ _).grown r2 hbase fun k hk => (hown.lt k hk).1)
/-- An append to a row of the call's own leaves what was read of it where it was. -/
theorem run_append_keep {P : Program} (w : World) (base : Nat) (t ty e : TypeId) (size bytes : Nat) (hel : El P t e size bytes) (g n cap : Nat) (xs : List Value) (hown : w.ownsRow base e size (.slice (some ⟨g, 0, none⟩) n cap) n xs)
    (ad : Addr) (m c : Nat) (news : List Value) (hl : news.length = m * size) (hnews : ∀ j u, news[j]? = some u → w.cell? (ad.add j) = some u) (h1 : ∀ u ∈ news, u.oneCell' = true)
    (h63 : n + m ≤ maxLen) (hbytes : (n + m) * bytes ≤ 140737488355328) (hbase : base ≤ w.heap.size) :
    ∃ v' w', (Builtin.append_ #[t, t] ty #[.slice (some ⟨g, 0, none⟩) n cap, .slice (some ad) m c]).run P w = .ok v' w' ∧ w'.ownsRow base e size v' (n + m) (xs ++ news) ∧ w.grownBy w' (some g) ∧
      ∀ k u, xs[k]? = some u → w'.cell? ⟨g, k, none⟩ = some u := by
  obtain ⟨ht, hsz, i, z, hi, hz, hsize, hby, hzs⟩ := hel
  obtain ⟨v', w', hr, r1, r2, r3⟩ := run_append_own (P := P) w base t ty e i z size bytes ht hi hz hsize hby hzs hsz _ n xs hown ad m c news hl hnews h1 h63 hbytes hbase
  have hcell : ∀ k u, xs[k]? = some u → w.cell? ⟨g, k, none⟩ = some u := fun k u hk => by
    have := hown.cells (g := g) rfl k u hk
    rwa [add_mk, Nat.zero_add] at this
  refine ⟨v', w', hr, r1, r2, fun k u hk => ?_⟩
  subst hsize
  rcases hown.2 with ⟨h0, _⟩ | ⟨g', cap', cur, hv, hbg, hg, hnc, hcm, hcs, htake⟩
  · cases h0
  · cases hv
    by_cases hroom : n + m ≤ cap
    · have hfit : n * i.size + news.length ≤ cur.size := by rw [hl, hcs, ← Nat.add_mul]; exact Nat.mul_le_mul_right _ hroom
      have hr2 := run_append_room (P := P) w t ty e i ht hi g n cap cur hg ad m c news hl hnews h1 hroom hfit
      rw [hr2] at hr
      simp only [Result.ok.injEq] at hr
      obtain ⟨rfl, rfl⟩ := hr
      have := r1.cells (g := g) rfl k u (by rw [List.getElem?_append_left (List.getElem?_eq_some_iff.1 hk).1]; exact hk)
      rwa [add_mk, Nat.zero_add] at this
    · have holds : ∀ j u, xs[j]? = some u → w.cell? ((⟨g, 0, none⟩ : Addr).add j) = some u := hown.cells (g := g) rfl
      have hr2 := run_append_grow (P := P) w t ty e i z ht hi hz ⟨g, 0, none⟩ n cap xs hown.1 holds ad m c news hl hnews (by omega) (by unfold maxLen at h63; omega) (growslice_fits (by omega) (by rw [hby]; exact hbytes))
      rw [hr2] at hr
      simp only [Result.ok.injEq] at hr
      obtain ⟨rfl, rfl⟩ := hr
      exact (World.cell?_alloc_lt w.drew _ (a := ⟨g, k, none⟩) (Array.getElem?_eq_some_iff.1 hg).1).trans (hcell k u hk)
/-- .. in a region that draws its order. -/
theorem step_append_keep {P : Program} {ops : Array Oper} {o : Oper} {a : Act} {w : World} {K : Act → World → Prop} {Q : Exit → Act → World → Prop} {E : Prop} (hgd : o.guard = none) (s x : Operand) (t : TypeId)
    (ho : o.op = .call { callee := .builtin .append, args := #[s, x], argTypes := #[t, t] })
    (base : Nat) (e : TypeId) (size bytes : Nat) (hel : El P t e size bytes) (g n cap : Nat) (xs : List Value) (hown : w.ownsRow base e size (.slice (some ⟨g, 0, none⟩) n cap) n xs) (hs : a.eval s = .slice (some ⟨g, 0, none⟩) n cap) (C : Array Value) (ad : Addr)
    (hx : a.eval x = .slice (some ad) 1 1) (hcell : ∀ j u, C.toList[j]? = some u → w.cell? (ad.add j) = some u) (hC : C.size = size) (h1 : ∀ u ∈ C.toList, u.oneCell' = true)
    (h63 : n + 1 ≤ maxLen) (hbytes : (n + 1) * bytes ≤ 140737488355328) (hbase : base ≤ w.heap.size)
    (hK : ∀ v' w', w'.ownsRow base e size v' (n + 1) (xs ++ C.toList) → Below base w w' → (∀ k u, xs[k]? = some u → w'.cell? ⟨g, k, none⟩ = some u) → K (a.put o.dst v') w') :
    if Region.wanted o (yielded ops a.tmps) = true then Oper.wp P o a w K Q else E := by
  have hw : Region.wanted o (yielded ops a.tmps) = true := by simp [Region.wanted, hgd]
  rw [if_pos hw]
  obtain ⟨v', w', hrun, r1, r2, r3⟩ := run_append_keep (P := P) w base t o.type e size bytes hel g n cap xs hown ad 1 1 C.toList (by simp [hC]) hcell h1 h63 hbytes hbase
  unfold Oper.wp
  simp [execOp, ho, resolve, invoke, builtin, hs, hx, hrun, Result.andThen]
  exact hK v' w' r1 ((Below.refl _ _).grown r2 hbase fun k hk => by cases hk; exact (hown.lt g rfl).1) r3
theorem ownsRow_drew {w : World} {base : Nat} {e : TypeId} {size : Nat} {v : Value} {n : Nat} {xs : List Value} (h : w.ownsRow base e size v n xs) : w.drew.ownsRow base e size v n xs := h
def iOf : Value → Nat
  | .int _ n => n.toNat
  | _ => 0

set_option maxRecDepth 20000 in
set_option maxHeartbeats 1000000 in
theorem sched_any (b : List UInt8) (A : Option Addr) (c : Nat) (hn : b.length = 64) (w : World) (hr : Rd w A (byteVals b)) :
    Calls Try.prog 85 #[.slice A 64 c] w fun e w' => RetS w 64 (natVals (schedW 48 (first16 b))) e w' := by
  obtain ⟨gb, o, rfl, hcell⟩ := hr (by intro e; have := byteVals_length b; rw [e, hn] at this; simp at this)
  have hbv : ∀ (j : Nat) (x : UInt8), b[j]? = some x → w.cell? ⟨gb, o + j, none⟩ = some (.int .u8 (x.toNat : Int)) := fun j x h => hcell j _ (by unfold byteVals; rw [List.getElem?_map, h]; rfl)
  have HBV := Lib.hid hbv
  have HN := Lib.hid hn
  clear hn hr hcell hbv
  go_enter Try.func85, Try.ntmps85
  go_wp2_with fail
  go_loopw [3, 4] (fun vw vi wr => ∃ t : Nat, vi = .int .i64 (t : Nat) ∧ t ≤ 64 ∧ Hid (wr.ownsRow w.heap.size 3 1 vw t (natVals (schedT b t))) ∧ Hid (Below w.heap.size w wr)) (fun _ vi _ => 64 - iOf vi)
  case atStart => exact ⟨0, rfl, by omega, Lib.hid ⟨rfl, Or.inl ⟨rfl, rfl⟩⟩, Lib.hid (Below.refl _ _)⟩
  case round =>
    obtain ⟨t, rfl, ht, HO, HBL⟩ := hrel
    by_cases h64 : t < 64
    · have l64 : (t : Int) < 64 := by omega
      by_cases h16 : t < 16
      · have l16 : (t : Int) < 16 := by omega
        obtain ⟨b0, e0⟩ : ∃ x, b[4 * t]? = some x := ⟨_, List.getElem?_eq_getElem (by rw [HN.out]; omega)⟩
        obtain ⟨b1, e1⟩ : ∃ x, b[4 * t + 1]? = some x := ⟨_, List.getElem?_eq_getElem (by rw [HN.out]; omega)⟩
        obtain ⟨b2, e2⟩ : ∃ x, b[4 * t + 2]? = some x := ⟨_, List.getElem?_eq_getElem (by rw [HN.out]; omega)⟩
        obtain ⟨b3, e3⟩ : ∃ x, b[4 * t + 3]? = some x := ⟨_, List.getElem?_eq_getElem (by rw [HN.out]; omega)⟩
        have q0 := HBV.out _ _ e0
        have q1 := HBV.out _ _ e1
        have q2 := HBV.out _ _ e2
        have q3 := HBV.out _ _ e3
        rw [← Nat.add_assoc] at q1 q2 q3
        have hST := schedT_low b t h16 b0 b1 b2 b3 e0 e1 e2 e3
        have y0 := UInt8.toNat_lt b0
        have y1 := UInt8.toNat_lt b1
        have y2 := UInt8.toNat_lt b2
        have y3 := UInt8.toNat_lt b3
        clear e0 e1 e2 e3
        generalize b0.toNat = x0 at *
        generalize b1.toNat = x1 at *
        generalize b2.toNat = x2 at *
        generalize b3.toNat = x3 at *
        have HST := Lib.hid hST
        clear hST
        have Q := Lib.hid (And.intro q0 (And.intro q1 (And.intro q2 q3)))
        have hbk : gb < w.heap.size := World.block_lt_of_cell? w _ q0
        have HK : Hid (∀ w', Below w.heap.size w w' → w'.cell? ⟨gb, o + 4 * t, none⟩ = some (.int .u8 (x0 : Nat)) ∧ w'.cell? ⟨gb, o + 4 * t + 1, none⟩ = some (.int .u8 (x1 : Nat)) ∧ w'.cell? ⟨gb, o + 4 * t + 2, none⟩ = some (.int .u8 (x2 : Nat)) ∧ w'.cell? ⟨gb, o + 4 * t + 3, none⟩ = some (.int .u8 (x3 : Nat))) := Lib.hid fun w' h => ⟨(h.cell hbk).trans Q.out.1, (h.cell hbk).trans Q.out.2.1, (h.cell hbk).trans Q.out.2.2.1, (h.cell hbk).trans Q.out.2.2.2⟩
        obtain ⟨p0, p1, p2, p3⟩ := HK.out _ HBL.out
        clear q0 q1 q2 q3
        have m0 : IntKind.i64.wrap (4 * (t : Int)) = 4 * (t : Int) := by rw [IntKind.wrap_i64]; omega
        have m1 : IntKind.i64.wrap (4 * (t : Int) + 1) = 4 * (t : Int) + 1 := by rw [IntKind.wrap_i64]; omega
        have m2 : IntKind.i64.wrap (4 * (t : Int) + 2) = 4 * (t : Int) + 2 := by rw [IntKind.wrap_i64]; omega
        have m3 : IntKind.i64.wrap (4 * (t : Int) + 3) = 4 * (t : Int) + 3 := by rw [IntKind.wrap_i64]; omega
        have t0 : (4 * (t : Int)).toNat = 4 * t := by omega
        have t1 : (4 * (t : Int) + 1).toNat = 4 * t + 1 := by omega
        have t2 : (4 * (t : Int) + 2).toNat = 4 * t + 2 := by omega
        have t3 : (4 * (t : Int) + 3).toNat = 4 * t + 3 := by omega
        have l0 : (0 : Int) ≤ 4 * (t : Int) := by omega
        have l1 : (0 : Int) ≤ 4 * (t : Int) + 1 := by omega
        have l2 : (0 : Int) ≤ 4 * (t : Int) + 2 := by omega
        have l3 : (0 : Int) ≤ 4 * (t : Int) + 3 := by omega
        have n0 : 4 * (t : Int) < 64 := by omega
        have n1 : 4 * (t : Int) + 1 < 64 := by omega
        have n2 : 4 * (t : Int) + 2 < 64 := by omega
        have n3 : 4 * (t : Int) + 3 < 64 := by omega
        have g1 : (o + (4 * t + 1) : Nat) = o + 4 * t + 1 := by omega
        have g2 : (o + (4 * t + 2) : Nat) = o + 4 * t + 2 := by omega
        have g3 : (o + (4 * t + 3) : Nat) = o + 4 * t + 3 := by omega
        go_wp2_with fail
        obtain ⟨z0, gz0⟩ : ∃ z, x0 * 16777216 = z := ⟨_, rfl⟩
        obtain ⟨z1, gz1⟩ : ∃ z, x1 * 65536 = z := ⟨_, rfl⟩
        obtain ⟨z2, gz2⟩ : ∃ z, x2 * 256 = z := ⟨_, rfl⟩
        obtain ⟨s1, gs1⟩ : ∃ z, z0 + z1 = z := ⟨_, rfl⟩
        obtain ⟨s2, gs2⟩ : ∃ z, s1 + z2 = z := ⟨_, rfl⟩
        obtain ⟨s3, gs3⟩ : ∃ z, s2 + x3 = z := ⟨_, rfl⟩
        have hW4 : word4 x0 x1 x2 x3 = s3 := by unfold word4; rw [gz0, gz1, gz2, gs1, gs2, gs3]
        rw [hW4] at HST
        have u0 : IntKind.i64.wrap (x0 : Int) = (x0 : Int) := by rw [IntKind.wrap_i64]; omega
        have u1 : IntKind.i64.wrap (x1 : Int) = (x1 : Int) := by rw [IntKind.wrap_i64]; omega
        have u2 : IntKind.i64.wrap (x2 : Int) = (x2 : Int) := by rw [IntKind.wrap_i64]; omega
        have u3 : IntKind.i64.wrap (x3 : Int) = (x3 : Int) := by rw [IntKind.wrap_i64]; omega
        have v0 : IntKind.i64.wrap ((x0 : Int) * 16777216) = (z0 : Int) := by rw [IntKind.wrap_i64]; omega
        have v1 : IntKind.i64.wrap ((x1 : Int) * 65536) = (z1 : Int) := by rw [IntKind.wrap_i64]; omega
        have v2 : IntKind.i64.wrap ((x2 : Int) * 256) = (z2 : Int) := by rw [IntKind.wrap_i64]; omega
        have r1 : IntKind.i64.wrap ((z0 : Int) + z1) = (s1 : Int) := by rw [IntKind.wrap_i64]; omega
        have r2 : IntKind.i64.wrap ((s1 : Int) + z2) = (s2 : Int) := by rw [IntKind.wrap_i64]; omega
        have r3 : IntKind.i64.wrap ((s2 : Int) + x3) = (s3 : Int) := by rw [IntKind.wrap_i64]; omega
        clear gz0 gz1 gz2 gs1 gs2 gs3 hW4 y0 y1 y2 y3
        go_region_held3 (fun w' => w'.cell? ⟨gb, o + 4 * t, none⟩ = some (.int .u8 (x0 : Nat)) ∧ w'.cell? ⟨gb, o + 4 * t + 1, none⟩ = some (.int .u8 (x1 : Nat)) ∧ w'.cell? ⟨gb, o + 4 * t + 2, none⟩ = some (.int .u8 (x2 : Nat)) ∧ w'.cell? ⟨gb, o + 4 * t + 3, none⟩ = some (.int .u8 (x3 : Nat))) (first | exact ⟨p0, p1, p2, p3⟩ | exact HK.out _ (HBL.out.alloc HBL.out.size _) | exact HK.out _ (HBL.out.alloc HBL.out.size _).drew | exact HK.out _ ((HBL.out.alloc HBL.out.size _).drew.trans hb3)) ((refine step_append_newS (by rfl) (.tmp 15) (.tmp 49) 63 (by rfl) w.heap.size 3 1 8 el_intH _ t (natVals (schedT b t)) (ownsRow_drew (HO.out.alloc _)) (by rfl) #[.int .i64 (s3 : Nat)] ⟨wr.heap.size, 0, none⟩ (by rfl) (by intro j u hu; rw [add_mk]; simpa [World.cell?_alloc_mark] using hu) (by rfl) (by intro u hu; simp at hu; subst hu; rfl) (by unfold maxLen; omega) (by omega) (by have := HBL.out.size; simp; omega) ?_; intro v3 w3 hown3 hb3))
        have hown4 : w3.ownsRow w.heap.size 3 1 v3 (t + 1) (natVals (schedT b (t + 1))) := by
          rw [HST.out, ← natVals_snoc _ _ _ rfl]
          exact hown3
        have HB3 := Lib.hid ((HBL.out.alloc HBL.out.size _).drew.trans hb3)
        clear u0 u1 u2 u3 v0 v1 v2 r1 r2 r3 p0 p1 p2 p3 hb3 hown3
        go_wp2_with fail
        go_round
        case rel => exact ⟨t + 1, by first | rfl | go_num, by omega, Lib.hid hown4, HB3⟩
        case measure => simp [iOf]; omega
      · have l16 : ¬ ((t : Int) < 16) := by omega
        obtain ⟨gw, cap, cur, rfl, hgw, hbk, hnc, hcm, htk⟩ := own_block HO.out (by omega)
        obtain ⟨hWl, hWb⟩ := schedT_len b t HN.out ht
        have hST := schedT_next b t (by omega)
        obtain ⟨W, hW⟩ : ∃ W, schedT b t = W := ⟨_, rfl⟩
        rw [hW] at hWl hWb hST htk HO
        have hcc : ∀ k, k < t → wr.cell? ⟨gw, k, none⟩ = some (.int .i64 (W.getD k 0 : Nat)) := fun k hk => by
          have h1 := natVals_get W k (by omega)
          rw [← htk, List.getElem?_take, if_pos hk] at h1
          exact (hbk.cell k).trans (by simpa using h1)
        obtain ⟨a16, h16⟩ : ∃ a, t = a + 16 := ⟨t - 16, by omega⟩
        obtain ⟨a15, h15⟩ : ∃ a, t = a + 15 := ⟨t - 15, by omega⟩
        obtain ⟨a7, h7⟩ : ∃ a, t = a + 7 := ⟨t - 7, by omega⟩
        obtain ⟨a2, h2⟩ : ∃ a, t = a + 2 := ⟨t - 2, by omega⟩
        have m16 : IntKind.i64.wrap ((t : Int) - 16) = (a16 : Int) := by rw [IntKind.wrap_i64]; omega
        have m15 : IntKind.i64.wrap ((t : Int) - 15) = (a15 : Int) := by rw [IntKind.wrap_i64]; omega
        have m7 : IntKind.i64.wrap ((t : Int) - 7) = (a7 : Int) := by rw [IntKind.wrap_i64]; omega
        have m2 : IntKind.i64.wrap ((t : Int) - 2) = (a2 : Int) := by rw [IntKind.wrap_i64]; omega
        have c16 := hcc a16 (by omega)
        have c15 := hcc a15 (by omega)
        have c7 := hcc a7 (by omega)
        have c2 := hcc a2 (by omega)
        have y16 := sched_get hWb (i := a16) (by omega)
        have y15 := sched_get hWb (i := a15) (by omega)
        have y7 := sched_get hWb (i := a7) (by omega)
        have y2 := sched_get hWb (i := a2) (by omega)
        have hNW : nextW W = (W.getD a16 0 + s0W (W.getD a15 0) + W.getD a7 0 + s1W (W.getD a2 0)) % 4294967296 := by
          unfold nextW
          rw [show W.length - 16 = a16 by omega, show W.length - 15 = a15 by omega, show W.length - 7 = a7 by omega, show W.length - 2 = a2 by omega]
        have HGT := Lib.hid (And.intro (natVals_get W a16 (by omega)) (natVals_get W a7 (by omega)))
        have l16' : (a16 : Int) < (t : Int) := by omega
        have l15 : (a15 : Int) < (t : Int) := by omega
        have l7 : (a7 : Int) < (t : Int) := by omega
        have l2 : (a2 : Int) < (t : Int) := by omega
        generalize W.getD a16 0 = x16 at *
        generalize W.getD a15 0 = x15 at *
        generalize W.getD a7 0 = x7 at *
        generalize W.getD a2 0 = x2 at *
        obtain ⟨r1, hr1⟩ : ∃ r, rot x15 7 = r := ⟨_, rfl⟩
        obtain ⟨r2, hr2⟩ : ∃ r, rot x15 18 = r := ⟨_, rfl⟩
        obtain ⟨d1, hd1⟩ : ∃ r, x15 / 2 ^ 3 = r := ⟨_, rfl⟩
        obtain ⟨r3, hr3⟩ : ∃ r, rot x2 17 = r := ⟨_, rfl⟩
        obtain ⟨r4, hr4⟩ : ∃ r, rot x2 19 = r := ⟨_, rfl⟩
        obtain ⟨d2, hd2⟩ : ∃ r, x2 / 2 ^ 10 = r := ⟨_, rfl⟩
        obtain ⟨p1, s0, e1, e2, hs0, ys0⟩ := s63 x15 r1 r2 d1 7 18 3 y15 hr1 hr2 hd1
        obtain ⟨p2, s1, e3, e4, hs1, ys1⟩ := s63 x2 r3 r4 d2 17 19 10 y2 hr3 hr4 hd2
        have dd1 : (x15 : Int) / 8 = (d1 : Int) := by simp only [Nat.reducePow] at hd1; omega
        have dd2 : (x2 : Int) / 1024 = (d2 : Int) := by simp only [Nat.reducePow] at hd2; omega
        have T1 : Hid (∀ w', Calls Try.prog 86 #[.int .i64 x15, .int .i64 7] w' fun e w'' => e = .returned (.int .i64 (r1 : Nat)) ∧ ∃ m, w'' = w'.drewN m) := Lib.hid fun w' => rotr_g hr1 y15 (by omega) w'
        have T2 : Hid (∀ w', Calls Try.prog 86 #[.int .i64 x15, .int .i64 18] w' fun e w'' => e = .returned (.int .i64 (r2 : Nat)) ∧ ∃ m, w'' = w'.drewN m) := Lib.hid fun w' => rotr_g hr2 y15 (by omega) w'
        have T3 : Hid (∀ w', Calls Try.prog 86 #[.int .i64 x2, .int .i64 17] w' fun e w'' => e = .returned (.int .i64 (r3 : Nat)) ∧ ∃ m, w'' = w'.drewN m) := Lib.hid fun w' => rotr_g hr3 y2 (by omega) w'
        have T4 : Hid (∀ w', Calls Try.prog 86 #[.int .i64 x2, .int .i64 19] w' fun e w'' => e = .returned (.int .i64 (r4 : Nat)) ∧ ∃ m, w'' = w'.drewN m) := Lib.hid fun w' => rotr_g hr4 y2 (by omega) w'
        have HWE := Lib.hid (And.intro hW trivial)
        obtain ⟨q1, gq1⟩ : ∃ q, x16 + s0 = q := ⟨_, rfl⟩
        obtain ⟨q2, gq2⟩ : ∃ q, q1 + x7 = q := ⟨_, rfl⟩
        obtain ⟨q3, gq3⟩ : ∃ q, q2 + s1 = q := ⟨_, rfl⟩
        obtain ⟨nw, gnw⟩ : ∃ q, q3 % 4294967296 = q := ⟨_, rfl⟩
        have f1 : IntKind.i64.wrap ((x16 : Int) + s0) = (q1 : Int) := by rw [IntKind.wrap_i64]; omega
        have f2 : IntKind.i64.wrap ((q1 : Int) + x7) = (q2 : Int) := by rw [IntKind.wrap_i64]; omega
        have f3 : IntKind.i64.wrap ((q2 : Int) + s1) = (q3 : Int) := by rw [IntKind.wrap_i64]; omega
        have f4 : bits .and .i64 (q3 : Int) 4294967295 = (nw : Int) := by rw [low32]; omega
        have hNX : schedT b (t + 1) = W ++ [nw] := by
          rw [hST, hNW, show s0W x15 = s0 from hs0.symm, show s1W x2 = s1 from hs1.symm, gq1, gq2, gq3, gnw]
        have HNX := Lib.hid (And.intro hNX trivial)
        have HA := Lib.hid (And.intro hWl (And.intro h16 (And.intro h15 (And.intro h7 h2))))
        have HCC := Lib.hid (And.intro c16 c7)
        have HG := Lib.hid (And.intro hgw (And.intro hbk.lt trivial))
        clear hr1 hr2 hr3 hr4 hd1 hd2 hs0 hs1 ys0 ys1 y16 y15 y7 y2 hNW hST hW hWl hWb hcc h16 h15 h7 h2 gq1 gq2 gq3 gnw hNX htk hbk hgw cur
        go_wp2_with fail
        go_quiet (fail)
        go_wp2_with fail
        refine (T1.out _).mono ?_
        rintro e w' ⟨rfl, m1, rfl⟩
        go_wp2_with fail
        refine (T2.out _).mono ?_
        rintro e w' ⟨rfl, m2, rfl⟩
        go_wp2_with fail
        refine (T3.out _).mono ?_
        rintro e w' ⟨rfl, m3, rfl⟩
        go_wp2_with fail
        refine (T4.out _).mono ?_
        rintro e w' ⟨rfl, m4, rfl⟩
        go_wp2_with fail
        have HO2 : Hid ((wr.drewN (nq + m1 + m2 + m3 + m4)).ownsRow w.heap.size 3 1 (.slice (some ⟨gw, 0, none⟩) t cap) t (natVals W)) := Lib.hid HO.out
        have HBL2 : Hid (Below w.heap.size w (wr.drewN (nq + m1 + m2 + m3 + m4))) := Lib.hid (below_dnS HBL.out _)
        have HCC2 : Hid ((wr.drewN (nq + m1 + m2 + m3 + m4)).cell? ⟨gw, a16, none⟩ = some (.int .i64 (x16 : Nat)) ∧ (wr.drewN (nq + m1 + m2 + m3 + m4)).cell? ⟨gw, a7, none⟩ = some (.int .i64 (x7 : Nat)) ∧ gw < (wr.drewN (nq + m1 + m2 + m3 + m4)).heap.size) := Lib.hid ⟨HCC.out.1, HCC.out.2, HG.out.2.1⟩
        clear c16 c7 c15 c2 HO HBL HCC
        generalize wr.drewN (nq + m1 + m2 + m3 + m4) = wz at *
        obtain ⟨c16, c7, hgz⟩ := HCC2.out
        have HK : Hid (∀ o, (wz.alloc o).cell? ⟨gw, a16, none⟩ = some (.int .i64 (x16 : Nat)) ∧ (wz.alloc o).cell? ⟨gw, a7, none⟩ = some (.int .i64 (x7 : Nat))) := Lib.hid fun o => ⟨(World.cell?_alloc_lt wz o (a := ⟨gw, a16, none⟩) hgz).trans c16, (World.cell?_alloc_lt wz o (a := ⟨gw, a7, none⟩) hgz).trans c7⟩
        go_region_held3 (fun w' => w'.cell? ⟨gw, a16, none⟩ = some (.int .i64 (x16 : Nat)) ∧ w'.cell? ⟨gw, a7, none⟩ = some (.int .i64 (x7 : Nat))) (first | exact ⟨c16, c7⟩ | exact HK.out _ | exact ⟨hkeep _ _ HGT.out.1, hkeep _ _ HGT.out.2⟩) ((refine step_append_keep (by rfl) (.tmp 77) (.tmp 94) 63 (by rfl) w.heap.size 3 1 8 el_intH gw t cap (natVals W) (ownsRow_drew (HO2.out.alloc _)) (by rfl) #[.int .i64 (nw : Nat)] ⟨wz.heap.size, 0, none⟩ (by rfl) (by intro j u hu; rw [add_mk]; simpa [World.cell?_alloc_mark] using hu) (by rfl) (by intro u hu; simp at hu; subst hu; rfl) (by unfold maxLen; omega) (by omega) (by have := HBL2.out.size; simp; omega) ?_; intro v3 w3 hown3 hb3 hkeep))
        have hown4 : w3.ownsRow w.heap.size 3 1 v3 (t + 1) (natVals (schedT b (t + 1))) := by
          rw [HNX.out.1, ← natVals_snoc _ _ _ rfl]
          exact hown3
        have HB3 := Lib.hid ((HBL2.out.alloc HBL2.out.size _).drew.trans hb3)
        clear e1 e2 e3 e4 f1 f2 f3 f4 hb3 hown3
        go_wp2_with fail
        go_round
        case rel => exact ⟨t + 1, by first | rfl | go_num, by omega, Lib.hid hown4, HB3⟩
        case measure => simp [iOf]; omega
    · obtain rfl : t = 64 := by omega
      have hown := HO.out
      rw [schedT_all b HN.out] at hown
      have HS := Lib.hid (Sl.own hown)
      obtain ⟨gw, cap, cur, rfl, hgw, hbk, hnc, hcm, htk⟩ := own_block hown (by omega)
      have HG := Lib.hid (And.intro hgw trivial)
      clear hown hbk htk hgw
      go_wp2_with fail
      go_ret
      obtain ⟨_, A3, c3, hv, hnc3, hm3, hr3⟩ := HS.out
      cases hv
      exact ⟨_, _, rfl, hnc3, hm3, hr3, fun ad h => by cases h; exact HG.out.1, HBL.out⟩
end Go.Proofs.Ytnhbkfefpkocaaa
