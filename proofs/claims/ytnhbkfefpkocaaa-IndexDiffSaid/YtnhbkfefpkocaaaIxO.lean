/-
  slices.IndexFunc, slices.DeleteFunc at items whose archive is a number; index.Without.
-/
import Derived.Test.YtnhbkfefpkocaaaIxN
namespace Go.Proofs.Ytnhbkfefpkocaaa
open Go.RowKit Go.Sort

section
variable {P : Program}
theorem run_clearK (w : World) (dT ty elem : TypeId) (z : Value) (size bytes : Nat) (g o k c : Nat) (cur : Array Value) (t : TypeId) (cs : List Value)
    (hu : P.underlying dT = some (.slice elem)) (hi : (P.info? elem).map (fun i => (i.zero, i.size, i.bytes)) = some (some z, size, bytes)) (hk : k ≠ 0)
    (hg : w.heap[g]? = some (.cells cur t (0, 0))) (hcs : (Builtin.zeroCells z.cells k).toList = cs) (hfit : o + cs.length ≤ cur.size) (h1 : ∀ v ∈ cs, v.oneCell' = true) :
    (Builtin.clear_ #[dT] ty #[.slice (some ⟨g, o, none⟩) k c]).run P w = .ok (.tuple #[]) (w.setRow g (cur.toList.take o ++ cs ++ cur.toList.drop (o + cs.length)).toArray) := by
  obtain ⟨i0, hi0, hz0, _, _⟩ := info_parts hi
  have hst := run_storeCells_at P g o t cs 0 cur w hg (by simpa using hfit) h1
  cases k with
  | zero => exact absurd rfl hk
  | succ k =>
    simp only [Builtin.clear_]
    simp [run_underlying hu, zeroValue, typeInfo, hi0, hz0, hcs, hst]
theorem wpList_clearK {w : World} {ops : Array Oper} {rest : List Oper} {o : Oper} {a : Act} {Q : Exit → Act → World → Prop} (hgd : o.guard = none) (s : Operand) (dT : TypeId)
    (ho : o.op = .call { callee := .builtin .clear, args := #[s], argTypes := #[dT] }) (elem : TypeId) (z : Value) (size bytes : Nat) (hu : P.underlying dT = some (.slice elem)) (hi : (P.info? elem).map (fun i => (i.zero, i.size, i.bytes)) = some (some z, size, bytes))
    (g off k c : Nat) (hs : a.eval s = .slice (some ⟨g, off, none⟩) k c) (hk : k ≠ 0)
    (cur : Array Value) (t : TypeId) (hg : w.heap[g]? = some (.cells cur t (0, 0))) (cs : List Value) (hcs : (Builtin.zeroCells z.cells k).toList = cs)
    (hfit : off + cs.length ≤ cur.size) (h1 : ∀ v ∈ cs, v.oneCell' = true) (B : Nat) (w0 : World) (hb : Below B w0 w) (hBg : B ≤ g)
    (h : ∀ w', Hid (w'.heap[g]? = some (.cells (splice cur.toList off cs).toArray t (0, 0))) → Below B w0 w' → wpList P ops Q rest (a.put o.dst (.tuple #[])) w') : wpList P ops Q (o :: rest) a w := by
  refine wpList_plain hgd fun K hK => ?_
  have hrun := run_clearK (P := P) w dT o.type elem z size bytes g off k c cur t cs hu hi hk hg hcs hfit h1
  unfold Oper.wp
  simp [execOp, ho, resolve, invoke, builtin, hs, hrun, Result.andThen]
  exact hK _ _ (h _ (show _ = _ by simpa [splice] using setRow_heap w g _ _ t _ hg) (below_setRow hb hBg _))
end
theorem zeros_one (k : Nat) : ∀ v ∈ (Builtin.zeroCells (Value.agg #[.string ⟨#[]⟩, .int .i64 0, .int .i64 0, .string ⟨#[]⟩]).cells k).toList, v.oneCell' = true := fun v hv => by
  simp only [Builtin.zeroCells, Array.toList_map, List.mem_map] at hv
  obtain ⟨i, _, rfl⟩ := hv
  have h4 : (Value.agg #[.string ⟨#[]⟩, .int .i64 0, .int .i64 0, .string ⟨#[]⟩]).cells = #[.string ⟨#[]⟩, .int .i64 0, .int .i64 0, .string ⟨#[]⟩] := rfl
  rw [h4]
  have hlt : i % 4 < 4 := Nat.mod_lt _ (by omega)
  show Value.oneCell' (#[Value.string ⟨#[]⟩, .int .i64 0, .int .i64 0, .string ⟨#[]⟩][i % 4]!) = true
  obtain h | h | h | h : i % 4 = 0 ∨ i % 4 = 1 ∨ i % 4 = 2 ∨ i % 4 = 3 := by omega
  all_goals rw [h]; rfl
theorem zeros_len (k : Nat) : (Builtin.zeroCells (Value.agg #[.string ⟨#[]⟩, .int .i64 0, .int .i64 0, .string ⟨#[]⟩]).cells k).toList.length = k * 4 := by
  rw [Array.length_toList, size_zeroCells]
  rfl
/-- Items of other archives. -/
def woI (id : Int) (l : List It) : List It := l.filter fun y => !decide (y.id = id)
theorem woI_succ {l : List It} {j : Nat} {y : It} (id : Int) (h : l[j]? = some y) : woI id (l.take (j + 1)) = woI id (l.take j) ++ (if y.id = id then [] else [y]) := by
  unfold woI
  rw [List.take_add_one, h, List.filter_append]
  by_cases hy : y.id = id <;> simp [hy]
theorem woI_none {id : Int} {l : List It} (h : ∀ y ∈ l, y.id ≠ id) : woI id l = l := List.filter_eq_self.2 fun y hy => by simp [h y hy]

set_option maxRecDepth 20000 in
theorem clo_any (x : It) (id : Int) (ib : Nat) (b : Bool) (hb : decide (x.id = id) = b) (w : World) (hid : w.cell? ⟨ib, 0, none⟩ = some (.int .i64 id)) :
    Calls Try.prog 35 #[.agg #[.string x.p, .int .i64 x.id, .int .i64 x.sz, .string x.sm], .pointer (some ⟨ib, 0, none⟩)] w fun e w' => e = .returned (.bool b) ∧ Below w.heap.size w w' := by
  have hid2 : (w.alloc (.cells #[.string x.p, .int .i64 x.id, .int .i64 x.sz, .string x.sm] 46)).cell? ⟨ib, 0, none⟩ = some (.int .i64 id) := (((Below.refl w.heap.size w).alloc (Nat.le_refl _) _).cell (World.block_lt_of_cell? w _ hid)).trans hid
  have HB := Lib.hid (And.intro hb trivial)
  clear hb
  go_enter Try.func35, Try.ntmps35
  go_wp2_with fail
  go_ret
  exact ⟨by first | (rw [← HB.out.1]; done) | (rw [← HB.out.1]; rfl) | (rw [← HB.out.1]; simp), (Below.refl w.heap.size w).alloc (Nat.le_refl _) _⟩

theorem own_free {w : World} {base n g cap : Nat} {e : TypeId} {xs : List Value} {size : Nat} (h : w.ownsRow base e size (.slice (some ⟨g, 0, none⟩) n cap) n xs) (i : Nat) : w.frozen? ⟨g, i, none⟩ = false := by
  rcases h.2 with ⟨h0, _⟩ | ⟨g', cap', cur, hv, _, hg, _⟩
  · cases h0
  · cases hv
    exact (show Bk w _ e cur from hg).frozen i
/-- Where the first item of an archive stands. -/
def FstI (id : Int) (L : List It) (k : Int) : Prop := (k = -1 ∧ ∀ y ∈ L, y.id ≠ id) ∨ ∃ i : Nat, k = (i : Int) ∧ (∃ y, L[i]? = some y ∧ y.id = id) ∧ ∀ y ∈ L.take i, y.id ≠ id

set_option maxRecDepth 20000 in
set_option maxHeartbeats 2000000 in
theorem idxF_any (L : List It) (A : Option Addr) (n c : Nat) (hn : L.length = n) (hl : n ≤ 1000000) (id : Int) (ib : Nat) (w : World) (hr : Rd w A (itf L)) (hid : w.cell? ⟨ib, 0, none⟩ = some (.int .i64 id)) :
    Calls Try.prog 61 #[.slice A n c, .func (.func 35) #[] #[.pointer (some ⟨ib, 0, none⟩)]] w fun e w' => ∃ k : Int, e = .returned (.int .i64 k) ∧ FstI id L k ∧ Below w.heap.size w w' := by
  have HN := Lib.hid (And.intro hn trivial)
  have HR := Lib.hid (And.intro hr hid)
  clear hn hr hid
  go_enter Try.func61, Try.ntmps61
  go_wp2_with fail
  go_loopw [8] (fun vi wr => ∃ i : Nat, vi = .int .i64 (i : Nat) ∧ i ≤ n ∧ Hid (∀ y ∈ L.take i, y.id ≠ id) ∧ Hid (Below w.heap.size w wr)) (fun vi _ => n - iOfI vi)
  case atStart => exact ⟨0, rfl, by omega, Lib.hid (by simp), Lib.hid (Below.refl _ _)⟩
  case round =>
    obtain ⟨i, rfl, hi, HF, HB⟩ := hrel
    by_cases hin : i < n
    · have hin1 : (i : Int) < (n : Int) := by omega
      obtain ⟨y, hy⟩ : ∃ y, L[i]? = some y := ⟨_, List.getElem?_eq_getElem (by rw [HN.out.1]; exact hin)⟩
      obtain ⟨g, o, rfl, hbl, r0, r1, r2, r3⟩ := (HR.out.1.below HB.out).item hy
      obtain ⟨b, hb⟩ : ∃ b, decide (y.id = id) = b := ⟨_, rfl⟩
      have HY := Lib.hid (And.intro hy hb)
      have hcl := Lib.hid (clo_any y id ib b hb wr ((HB.out.cell (World.block_lt_of_cell? w _ HR.out.2)).trans HR.out.2))
      clear hy hb
      cases b with
      | true =>
        go_wp2_with (go_at_call 35; refine hcl.out.mono ?_; rintro e w2 ⟨rfl, hb2⟩)
        go_ret
        exact ⟨_, rfl, .inr ⟨i, rfl, ⟨y, HY.out.1, by simpa using HY.out.2⟩, HF.out⟩, bl HB.out hb2⟩
      | false =>
        go_wp2_with (go_at_call 35; refine hcl.out.mono ?_; rintro e w2 ⟨rfl, hb2⟩)
        go_round
        case rel => exact ⟨i + 1, by first | rfl | go_num, by omega, Lib.hid (fun z hz => by
          rw [List.take_add_one, HY.out.1] at hz
          rcases List.mem_append.1 hz with h | h
          · exact HF.out z h
          · simp at h; rw [h]; simpa using HY.out.2), Lib.hid (bl HB.out hb2)⟩
        case measure => simp [iOfI]; omega
    · have hin1 : ¬ ((i : Int) < (n : Int)) := by omega
      go_wp2_with fail
      go_ret
      exact ⟨_, rfl, .inl ⟨rfl, fun y hy => HF.out y (by rw [List.take_of_length_le (by rw [HN.out.1]; omega)]; exact hy)⟩, HB.out⟩

/-- Behind DeleteFunc. -/
def DelEnd (w : World) (base : Nat) (l : List It) (e : Ending) (w' : World) : Prop := ∃ A c, e = .returned (.slice A l.length c) ∧ l.length ≤ c ∧ c ≤ maxLen ∧ Rd w' A (itf l) ∧ (∀ ad, A = some ad → base ≤ ad.block) ∧ Below base w w'

set_option maxRecDepth 20000 in
set_option maxHeartbeats 4000000 in
theorem delF_any (L : List It) (v : Value) (n base : Nat) (hn : L.length = n) (hl : n ≤ 1000000) (id : Int) (ib : Nat) (w : World) (hbase : base ≤ w.heap.size) (ho : w.ownsRow base 46 4 v n (itf L)) (hid : w.cell? ⟨ib, 0, none⟩ = some (.int .i64 id)) (hib : ib < base) :
    Calls Try.prog 33 #[v, .func (.func 35) #[] #[.pointer (some ⟨ib, 0, none⟩)]] w (DelEnd w base (woI id L)) := by
  obtain ⟨_, A, cap, rfl, hnc, hcm, hr⟩ := Sl.own ho
  have hlt : ∀ ad, A = some ad → base ≤ ad.block := fun ad hA => by subst hA; exact (ho.lt ad.block rfl).1
  have HN := Lib.hid (And.intro hn (And.intro hlt ho))
  have HIX := Lib.hid (idxF_any L A n cap hn hl id ib w hr hid)
  have HID := Lib.hid hid
  have HR := Lib.hid hr
  clear hn ho hid hr hlt
  go_enter Try.func33, Try.ntmps33
  go_wp2_with fail
  refine HIX.out.mono ?_
  rintro e w2 ⟨k, rfl, hf, hb2⟩
  clear HIX
  rcases hf with ⟨rfl, hno⟩ | ⟨i0, rfl, ⟨y0, hy0, hyid⟩, hno⟩
  · have HNO := Lib.hid hno
    clear hno
    go_wp2_with fail
    go_ret
    rw [woI_none HNO.out]
    exact ⟨A, cap, by rw [HN.out.1]; rfl, by rw [HN.out.1]; exact hnc, hcm, HR.out.below hb2, HN.out.2.1, hb2.mono hbase⟩
  · have hi0 : i0 < n := by have := (List.getElem?_eq_some_iff.1 hy0).1; rw [HN.out.1] at this; exact this
    have hst : L.take i0 = woI id (L.take (i0 + 1)) := by rw [woI_succ id hy0, woI_none hno]; simp [hyid]
    have ho2 := own_belowI HN.out.2.2 hb2
    obtain ⟨g, rfl⟩ : ∃ g, A = some ⟨g, 0, none⟩ := by
      rcases HN.out.2.2.2 with ⟨h0, hn0⟩ | ⟨g', cap', cur, hv, _⟩
      · omega
      · cases hv
        exact ⟨_, rfl⟩
    have hbg : base ≤ g := HN.out.2.1 _ rfl
    have HST := Lib.hid (And.intro hst (And.intro ho2 (hb2.mono hbase)))
    have hne1 : ((i0 : Int) == -1) = false := by simp
    clear hno hy0 hst ho2 hb2 HR
    go_wp2_with fail
    go_loopw [5, 6] (fun vi vj wr => ∃ (i j : Nat) (M : List It), vi = .int .i64 (i : Nat) ∧ vj = .int .i64 (j : Nat) ∧ i < j ∧ j ≤ n ∧ Hid (M.length = n ∧ True) ∧ Hid (M.take i = woI id (L.take j) ∧ True) ∧ Hid (M.drop j = L.drop j ∧ True) ∧ Hid (wr.ownsRow base 46 4 (.slice (some ⟨g, 0, none⟩) n cap) n (itf M)) ∧ Hid (Below base w wr)) (fun _ vj _ => n - iOfI vj)
    case atStart => exact ⟨i0, i0 + 1, L, rfl, by first | rfl | go_num, by omega, by omega, Lib.hid ⟨HN.out.1, trivial⟩, Lib.hid ⟨HST.out.1, trivial⟩, Lib.hid ⟨rfl, trivial⟩, Lib.hid HST.out.2.1, Lib.hid HST.out.2.2⟩
    case round =>
      obtain ⟨i, j, M, rfl, rfl, hij, hj, HM, HT, HD, HO, HB⟩ := hrel
      have hidr : wr.cell? ⟨ib, 0, none⟩ = some (.int .i64 id) := (HB.out.cell hib).trans HID.out
      have HIDR := Lib.hid hidr
      clear hidr
      by_cases hjn : j < n
      · have hjn1 : (j : Int) < (n : Int) := by omega
        obtain ⟨y, hy⟩ : ∃ y, L[j]? = some y := ⟨_, List.getElem?_eq_getElem (by rw [HN.out.1]; exact hjn)⟩
        have hyM : M[j]? = some y := by
          have e := congrArg (fun l => l[0]?) HD.out.1
          simp only [List.getElem?_drop, Nat.add_zero] at e
          rw [e, hy]
        obtain ⟨z, hz⟩ : ∃ z, M[i]? = some z := ⟨_, List.getElem?_eq_getElem (by rw [HM.out.1]; omega)⟩
        obtain ⟨_, A9, c9, hv9, _, _, hr9⟩ := Sl.own HO.out
        cases hv9
        obtain ⟨g1, o1, hA1, hgl, r0, r1, r2, r3⟩ := hr9.item hyM
        cases hA1
        obtain ⟨g2, o2, hA2, _, s0, s1, s2, s3⟩ := hr9.item hz
        cases hA2
        simp only [Nat.zero_add] at r0 r1 r2 r3 s0 s1 s2 s3
        obtain ⟨b, hb⟩ : ∃ b, decide (y.id = id) = b := ⟨_, rfl⟩
        have hsz := Nat.le_trans hbase HB.out.size
        have hba := (Below.refl wr.heap.size wr).alloc (Nat.le_refl _) (.cells #[.string y.p, .int .i64 y.id, .int .i64 y.sz, .string y.sm] 46)
        have hcl := Lib.hid (clo_any y id ib b hb (wr.alloc (.cells #[.string y.p, .int .i64 y.id, .int .i64 y.sz, .string y.sm] 46)) ((hba.cell (World.block_lt_of_cell? wr _ HIDR.out)).trans HIDR.out))
        have hbx := Bk.new wr 46 #[.string y.p, .int .i64 y.id, .int .i64 y.sz, .string y.sm]
        have HY := Lib.hid (And.intro hy (And.intro hb (And.intro hba (And.intro hbx (And.intro (And.intro s0 (And.intro s1 (And.intro s2 s3))) hgl)))))
        clear hy hyM hz hb hr9 hba hbx s0 s1 s2 s3
        cases b with
        | true =>
          clear hgl
          go_wp2_with (go_at_call 35; refine hcl.out.mono ?_; rintro e w4 ⟨rfl, hb4⟩)
          have hb5 := bl HY.out.2.2.1 hb4
          go_round
          case rel => exact ⟨i, j + 1, M, rfl, by first | rfl | go_num, by omega, by omega, HM, Lib.hid ⟨by
            have := woI_succ id HY.out.1
            rw [if_pos (by simpa using HY.out.2.1)] at this
            rw [this, List.append_nil, HT.out.1], trivial⟩, Lib.hid ⟨by
            have e := congrArg (List.drop 1) HD.out.1
            rwa [List.drop_drop, List.drop_drop] at e, trivial⟩, Lib.hid (own_belowI HO.out hb5), Lib.hid (HB.out.trans (hb5.mono hsz))⟩
          case measure => simp [iOfI]; omega
        | false =>
          have hin1 : (i : Int) < (n : Int) := by omega
          have HF4 : Hid (∀ w4, Below (wr.alloc (.cells #[.string y.p, .int .i64 y.id, .int .i64 y.sz, .string y.sm] 46)).heap.size (wr.alloc (.cells #[.string y.p, .int .i64 y.id, .int .i64 y.sz, .string y.sm] 46)) w4 → (w4.cell? ⟨wr.heap.size, 0, none⟩ = some (.string y.p) ∧ w4.cell? ⟨wr.heap.size, 1, none⟩ = some (.int .i64 y.id) ∧ w4.cell? ⟨wr.heap.size, 2, none⟩ = some (.int .i64 y.sz) ∧ w4.cell? ⟨wr.heap.size, 3, none⟩ = some (.string y.sm)) ∧ (w4.cell? ⟨g, i * 4, none⟩ = some (.string z.p) ∧ w4.cell? ⟨g, i * 4 + 1, none⟩ = some (.int .i64 z.id) ∧ w4.cell? ⟨g, i * 4 + 2, none⟩ = some (.int .i64 z.sz) ∧ w4.cell? ⟨g, i * 4 + 3, none⟩ = some (.string z.sm)) ∧ w4.frozen? ⟨g, i * 4, none⟩ = false ∧ w4.frozen? ⟨g, i * 4 + 1, none⟩ = false ∧ w4.frozen? ⟨g, i * 4 + 2, none⟩ = false ∧ w4.frozen? ⟨g, i * 4 + 3, none⟩ = false) := Lib.hid fun w4 hb4 => by
            have hb5 := bl HY.out.2.2.1 hb4
            have hb6 := HY.out.2.2.2.1.below' hb4
            have ho5 := own_belowI HO.out hb5
            exact ⟨⟨hb6.cell_ 0 _ rfl, hb6.cell_ 1 _ rfl, hb6.cell_ 2 _ rfl, hb6.cell_ 3 _ rfl⟩, ⟨(hb5.cell (World.block_lt_of_cell? wr _ HY.out.2.2.2.2.1.1)).trans HY.out.2.2.2.2.1.1, (hb5.cell (World.block_lt_of_cell? wr _ HY.out.2.2.2.2.1.2.1)).trans HY.out.2.2.2.2.1.2.1, (hb5.cell (World.block_lt_of_cell? wr _ HY.out.2.2.2.2.1.2.2.1)).trans HY.out.2.2.2.2.1.2.2.1, (hb5.cell (World.block_lt_of_cell? wr _ HY.out.2.2.2.2.1.2.2.2)).trans HY.out.2.2.2.2.1.2.2.2⟩, own_free ho5 _, own_free ho5 _, own_free ho5 _, own_free ho5 _⟩
          go_wp2_with (go_at_call 35; refine hcl.out.mono ?_; rintro e w4 ⟨rfl, hb4⟩; have hb5 := bl HY.out.2.2.1 hb4; obtain ⟨⟨y0, y1, y2, y3⟩, ⟨s0, s1, s2, s3⟩, f0, f1, f2, f3⟩ := HF4.out w4 hb4)
          have ho6 := own_put (own_belowI HO.out hb5) i y
          have hb7 : Below base w ((((w4.setCell ⟨g, i * 4, none⟩ (.string y.p)).setCell ⟨g, i * 4 + 1, none⟩ (.int .i64 y.id)).setCell ⟨g, i * 4 + 2, none⟩ (.int .i64 y.sz)).setCell ⟨g, i * 4 + 3, none⟩ (.string y.sm)) := ((((HB.out.trans (hb5.mono hsz)).setCell (p := ⟨g, i * 4, none⟩) hbg _).setCell (p := ⟨g, i * 4 + 1, none⟩) hbg _).setCell (p := ⟨g, i * 4 + 2, none⟩) hbg _).setCell (p := ⟨g, i * 4 + 3, none⟩) hbg _
          have HE := Lib.hid (And.intro ho6 hb7)
          have hrelN : Hid ((M.set i y).take (i + 1) = woI id (L.take (j + 1)) ∧ (M.set i y).drop (j + 1) = L.drop (j + 1)) := Lib.hid ⟨by
            have := woI_succ id HY.out.1
            rw [if_neg (by simpa using HY.out.2.1)] at this
            rw [this, ← HT.out.1, List.take_add_one, List.getElem?_set_self (by rw [HM.out.1]; omega), List.take_set_of_le (Nat.le_refl _)]
            rfl, by
            have e := congrArg (List.drop 1) HD.out.1
            rw [List.drop_drop, List.drop_drop] at e
            rw [List.drop_set_of_lt (by omega)]
            exact e⟩
          first
            | (go_round
               case rel => exact ⟨i + 1, j + 1, M.set i y, by first | rfl | go_num, by first | rfl | go_num, by omega, by omega, Lib.hid ⟨by rw [List.length_set]; exact HM.out.1, trivial⟩, Lib.hid ⟨hrelN.out.1, trivial⟩, Lib.hid ⟨hrelN.out.2, trivial⟩, Lib.hid HE.out.1, Lib.hid HE.out.2⟩
               case measure => simp [iOfI]; omega)
            | exact ⟨⟨i + 1, j + 1, M.set i y, by first | rfl | go_num, by first | rfl | go_num, by omega, by omega, Lib.hid ⟨by rw [List.length_set]; exact HM.out.1, trivial⟩, Lib.hid ⟨hrelN.out.1, trivial⟩, Lib.hid ⟨hrelN.out.2, trivial⟩, Lib.hid HE.out.1, Lib.hid HE.out.2⟩, by simp [iOfI]; omega⟩
      · obtain rfl : j = n := by omega
        have hic : ¬ (cap = i) := by omega
        have hic2 : i ≤ j := by omega
        have hic3 : i ≤ cap := by omega
        rcases HO.out.2 with ⟨h0, hn0⟩ | ⟨g', cap', cur, hv, _, hg, _, _, hcs, htk⟩
        · omega
        · cases hv
          have HG := Lib.hid (And.intro hg (And.intro hcs htk))
          obtain ⟨Z, hZ⟩ : ∃ Z, (Builtin.zeroCells (Value.agg #[.string ⟨#[]⟩, .int .i64 0, .int .i64 0, .string ⟨#[]⟩]).cells (j - i)).toList = Z := ⟨_, rfl⟩
          have hZ1 : ∀ v ∈ Z, v.oneCell' = true := by rw [← hZ]; exact zeros_one _
          have hZ2 : Z.length = (j - i) * 4 := by rw [← hZ]; exact zeros_len _
          have HZ := Lib.hid (And.intro hZ (And.intro hZ1 hZ2))
          clear hg hcs htk hZ hZ1 hZ2
          go_wp2_with ((refine wpList_clearK rfl (.tmp 38) 23 rfl 46 (.agg #[.string ⟨#[]⟩, .int .i64 0, .int .i64 0, .string ⟨#[]⟩]) 4 48 Try.underlying23 Try.info46 g (i * 4) (j - i) (cap - i) (by rfl) (by omega) cur 46 HG.out.1 Z HZ.out.1 (by rw [HZ.out.2.2, HG.out.2.1]; omega) HZ.out.2.1 base w HB.out hbg ?_); intro w5 hg5 hb5)
          go_ret
          have hwl : (woI id L).length = i := by
            have e := congrArg List.length HT.out.1
            rw [List.length_take, HM.out.1, List.take_of_length_le (by rw [HN.out.1]; omega)] at e
            omega
          refine ⟨some ⟨g, 0, none⟩, cap, by rw [hwl]; rfl, by rw [hwl]; omega, hcm, ?_, fun ad hA => by cases hA; exact hbg, hb5⟩
          have e2 : itf (woI id L) = (splice cur.toList (i * 4) Z).take (i * 4) := by
            rw [splice_head _ _ _ _ (Nat.le_refl _) (by rw [Array.length_toList, HG.out.2.1]; omega)]
            have e3 := HT.out.1
            rw [List.take_of_length_le (l := L) (by rw [HN.out.1]; omega)] at e3
            rw [← e3, ← itf_take, ← HG.out.2.2, List.take_take, Nat.min_eq_left (by omega)]
          rw [e2]
          exact (show Bk w5 g 46 _ from hg5.out).rd (i * 4)
end Go.Proofs.Ytnhbkfefpkocaaa
