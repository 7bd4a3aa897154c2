/-
  Items in a row of a call's own: slices.Clone and slices.Insert.
-/
import Derived.Test.YtnhbkfefpkocaaaIxA
import Derived.Laws.CopyOwn
import Derived.Lib.AppendZerosOnto
import Derived.Lib.Overlaps
import Derived.Laws.Externs
import Derived.Lib.SliceRun
namespace Go.Proofs.Ytnhbkfefpkocaaa
open Go.RowKit Go.Sort

theorem Try.info46 : (Try.prog.info? 46).map (fun i => (i.zero, i.size, i.bytes)) = some (some (.agg #[.string ⟨#[]⟩, .int .i64 0, .int .i64 0, .string ⟨#[]⟩]), 4, 48) := by kernel_rfl
theorem el_item : El Try.prog 23 46 4 48 := El.mk_ (z := .agg #[.string ⟨#[]⟩, .int .i64 0, .int .i64 0, .string ⟨#[]⟩]) Try.underlying23 Try.info46 (by omega) rfl

section
variable {P : Program}
theorem run_copyK (w : World) (dT sT ty elem : TypeId) (size : Nat) (g o dLen dCap : Nat) (a : Addr) (sLen sCap : Nat) (cur : Array Value) (t : TypeId) (cs : List Value)
    (hu : P.underlying dT = some (.slice elem)) (hs : (P.info? elem).map (·.size) = some size)
    (hg : w.heap[g]? = some (.cells cur t (0, 0))) (hn : cs.length = Nat.min sLen dLen * size)
    (hsrc : ∀ j v, cs[j]? = some v → w.cell? (a.add j) = some v) (hfit : o + cs.length ≤ cur.size) (h1 : ∀ v ∈ cs, v.oneCell' = true) :
    (Builtin.copy_ #[dT, sT] ty #[.slice (some ⟨g, o, none⟩) dLen dCap, .slice (some a) sLen sCap]).run P w =
      .ok (goInt (Nat.min sLen dLen)) (w.setRow g (cur.toList.take o ++ cs ++ cur.toList.drop (o + cs.length)).toArray) := by
  have hl := run_loadCells_list (P := P) w a cs hsrc
  have hst := run_storeCells_at P g o t cs 0 cur w hg (by simpa using hfit) h1
  cases hq : P.info? elem with
  | none => simp [hq] at hs
  | some i =>
    have hi : i.size = size := by simpa [hq] using hs
    simp only [Builtin.copy_]
    simp [run_underlying hu, Builtin.lenOf, Builtin.firstCells, sizeOf, typeInfo, hq, hi, ← hn, hl, hst]
theorem wpList_copyK {w : World} {ops : Array Oper} {rest : List Oper} {o : Oper} {a : Act} {Q : Exit → Act → World → Prop} (hgd : o.guard = none) (d s : Operand) (dT sT : TypeId)
    (ho : o.op = .call { callee := .builtin .copy, args := #[d, s], argTypes := #[dT, sT] }) (elem : TypeId) (size : Nat) (hu : P.underlying dT = some (.slice elem)) (hsz : (P.info? elem).map (·.size) = some size)
    (g off dLen dCap : Nat) (ad : Addr) (sLen sCap : Nat) (hd : a.eval d = .slice (some ⟨g, off, none⟩) dLen dCap) (hs : a.eval s = .slice (some ad) sLen sCap)
    (cur : Array Value) (t : TypeId) (hg : w.heap[g]? = some (.cells cur t (0, 0))) (cs : List Value) (hn : cs.length = Nat.min sLen dLen * size)
    (hsrc : ∀ j v, cs[j]? = some v → w.cell? (ad.add j) = some v) (hfit : off + cs.length ≤ cur.size) (h1 : ∀ v ∈ cs, v.oneCell' = true) (B : Nat) (w0 : World) (hb : Below B w0 w) (hBg : B ≤ g)
    (h : ∀ w', Hid (w'.heap[g]? = some (.cells (splice cur.toList off cs).toArray t (0, 0))) → Below B w0 w' → (∀ k, k ≠ g → w'.heap[k]? = w.heap[k]?) → wpList P ops Q rest (a.put o.dst (goInt (Nat.min sLen dLen))) w') : wpList P ops Q (o :: rest) a w := by
  refine wpList_plain hgd fun K hK => ?_
  have hrun := run_copyK (P := P) w dT sT o.type elem size g off dLen dCap ad sLen sCap cur t cs hu hsz hg hn hsrc hfit h1
  unfold Oper.wp
  simp [execOp, ho, resolve, invoke, builtin, hd, hs, hrun, Result.andThen]
  exact hK _ _ (h _ (show _ = _ by simpa [splice] using setRow_heap w g _ _ t _ hg) (below_setRow hb hBg _) fun k hk => setRow_other w g k _ hk)
theorem step_copyK {ops : Array Oper} {o : Oper} {a : Act} {w : World} {K : Act → World → Prop} {Q : Exit → Act → World → Prop} {E : Prop} (hgd : o.guard = none) (d s : Operand) (dT sT : TypeId)
    (ho : o.op = .call { callee := .builtin .copy, args := #[d, s], argTypes := #[dT, sT] }) (elem : TypeId) (size : Nat) (hu : P.underlying dT = some (.slice elem)) (hsz : (P.info? elem).map (·.size) = some size)
    (g off dLen dCap : Nat) (ad : Addr) (sLen sCap : Nat) (hd : a.eval d = .slice (some ⟨g, off, none⟩) dLen dCap) (hs : a.eval s = .slice (some ad) sLen sCap)
    (cur : Array Value) (t : TypeId) (hg : w.heap[g]? = some (.cells cur t (0, 0))) (cs : List Value) (hn : cs.length = Nat.min sLen dLen * size)
    (hsrc : ∀ j v, cs[j]? = some v → w.cell? (ad.add j) = some v) (hfit : off + cs.length ≤ cur.size) (h1 : ∀ v ∈ cs, v.oneCell' = true) (B : Nat) (w0 : World) (hb : Below B w0 w) (hBg : B ≤ g)
    (h : ∀ w', Hid (w'.heap[g]? = some (.cells (splice cur.toList off cs).toArray t (0, 0))) → Below B w0 w' → (∀ k, k ≠ g → w'.heap[k]? = w.heap[k]?) → K (a.put o.dst (goInt (Nat.min sLen dLen))) w') :
    if Region.wanted o (yielded ops a.tmps) = true then Oper.wp P o a w K Q else E := by
  have hw : Region.wanted o (yielded ops a.tmps) = true := by simp [Region.wanted, hgd]
  rw [if_pos hw]
  have hrun := run_copyK (P := P) w dT sT o.type elem size g off dLen dCap ad sLen sCap cur t cs hu hsz hg hn hsrc hfit h1
  unfold Oper.wp
  simp [execOp, ho, resolve, invoke, builtin, hd, hs, hrun, Result.andThen]
  exact h _ (show _ = _ by simpa [splice] using setRow_heap w g _ _ t _ hg) (below_setRow hb hBg _) fun k hk => setRow_other w g k _ hk
end

theorem splice_head {α : Type} (c : List α) (o : Nat) (s : List α) (k : Nat) (h : k ≤ o) (hc : o ≤ c.length) : (splice c o s).take k = c.take k := by
  unfold splice
  rw [List.take_append_of_le_length (by rw [List.length_take]; omega), List.take_take, Nat.min_eq_left h]
theorem ins_row {cur : List Value} {L : List It} {x : It} {i n : Nat} (hn : L.length = n) (hi : i ≤ n) (h : cur.take (n * 4) = itf L) (hsz : (n + 1) * 4 ≤ cur.length) :
    (splice (splice cur ((i + 1) * 4) (itf (L.drop i))) (i * 4) (itf [x])).take ((n + 1) * 4) = itf (L.take i ++ x :: L.drop i) := by
  have hD : (itf (L.drop i)).length = (n - i) * 4 := by rw [itf_len, List.length_drop, hn]
  have hX : (itf [x]).length = 4 := rfl
  have hA : cur.take (i * 4) = itf (L.take i) := by
    rw [← itf_take, ← h, List.take_take, Nat.min_eq_left (by omega)]
  obtain ⟨D, hDe⟩ : ∃ D, itf (L.drop i) = D := ⟨_, rfl⟩
  obtain ⟨X, hXe⟩ : ∃ X, itf [x] = X := ⟨_, rfl⟩
  rw [show L.take i ++ x :: L.drop i = L.take i ++ ([x] ++ L.drop i) by simp, itf_app, itf_app, ← hA]
  rw [hDe] at hD ⊢
  rw [hXe] at hX ⊢
  unfold splice
  rw [hX, hD]
  have e1 : (cur.take ((i + 1) * 4) ++ (D ++ cur.drop ((i + 1) * 4 + (n - i) * 4))).take (i * 4) = cur.take (i * 4) := by
    rw [List.take_append_of_le_length (by rw [List.length_take]; omega), List.take_take, Nat.min_eq_left (by omega)]
  have e2 : (cur.take ((i + 1) * 4) ++ (D ++ cur.drop ((i + 1) * 4 + (n - i) * 4))).drop (i * 4 + 4) = D ++ cur.drop ((i + 1) * 4 + (n - i) * 4) := by
    rw [show i * 4 + 4 = (cur.take ((i + 1) * 4)).length by rw [List.length_take]; omega, List.drop_left]
  rw [e1, e2, ← List.append_assoc, ← List.append_assoc]
  rw [List.append_assoc (cur.take (i * 4)) X D]
  exact List.take_left' (by simp only [List.length_append, List.length_take, hX, hD]; omega)
theorem ins_new {R : List Value} {L : List It} {x : It} {i n : Nat} (hn : L.length = n) (hi : i ≤ n) (h : R.take (i * 4) = itf (L.take i)) (hsz : (n + 1) * 4 ≤ R.length) :
    (splice (splice R (i * 4) (itf [x])) ((i + 1) * 4) (itf (L.drop i))).take ((n + 1) * 4) = itf (L.take i ++ x :: L.drop i) := by
  have hD : (itf (L.drop i)).length = (n - i) * 4 := by rw [itf_len, List.length_drop, hn]
  have hX : (itf [x]).length = 4 := rfl
  obtain ⟨D, hDe⟩ : ∃ D, itf (L.drop i) = D := ⟨_, rfl⟩
  obtain ⟨X, hXe⟩ : ∃ X, itf [x] = X := ⟨_, rfl⟩
  rw [show L.take i ++ x :: L.drop i = L.take i ++ ([x] ++ L.drop i) by simp, itf_app, itf_app, ← h]
  rw [hDe] at hD ⊢
  rw [hXe] at hX ⊢
  unfold splice
  rw [hX, hD]
  have e1 : (R.take (i * 4) ++ (X ++ R.drop (i * 4 + 4))).take ((i + 1) * 4) = R.take (i * 4) ++ X := by
    rw [← List.append_assoc]
    exact List.take_left' (by rw [List.length_append, List.length_take, hX]; omega)
  rw [e1, ← List.append_assoc, ← List.append_assoc]
  rw [List.append_assoc (R.take (i * 4)) X D]
  exact List.take_left' (by simp only [List.length_append, List.length_take, hX, hD]; omega)
theorem splice_len' {α : Type} (L : List α) (off : Nat) (cs : List α) (h : off + cs.length ≤ L.length) : (splice L off cs).length = L.length := length_splice L off cs h

/-- Items in memory of a call's own, as a call's answer. -/
def OwnI (w : World) (l : List It) (e : Ending) (w' : World) : Prop := ∃ v, e = .returned v ∧ w'.ownsRow w.heap.size 46 4 v l.length (itf l) ∧ Below w.heap.size w w'
set_option maxRecDepth 20000 in
set_option maxHeartbeats 2000000 in
theorem cloneI_any (l : List It) (A : Option Addr) (n c : Nat) (hn : l.length = n) (hl : n ≤ 1000000) (w : World) (hr : Rd w A (itf l)) :
    Calls Try.prog 34 #[.slice A n c] w (OwnI w l) := by
  have Hn := Lib.hid (And.intro hn trivial)
  clear hn
  cases A with
  | none =>
    have h0 : l = [] := by
      rcases List.eq_nil_or_concat l with h | ⟨a, b, h⟩
      · exact h
      · obtain ⟨_, _, e, _⟩ := hr (by intro e; have := itf_len l; rw [e, h] at this; simp at this)
        cases e
    subst h0
    obtain rfl : n = 0 := Hn.out.1.symm
    clear Hn
    have hnil := fun w => Go.Lib.run_eql_slice_nil (P := Try.prog) w 23 46 none 0 c 0 0 Try.underlying23
    go_enter Try.func34, Try.ntmps34
    go_wp2_with fail
    go_ret
    exact ⟨_, rfl, ⟨rfl, Or.inl ⟨rfl, rfl⟩⟩, Below.refl _ _⟩
  | some ad =>
    have hnil := fun w => Go.Lib.run_eql_slice_nil (P := Try.prog) w 23 46 (some ad) n c 0 0 Try.underlying23
    have hfl := Lib.hid (show (itf l).length = n * 4 by rw [itf_len, Hn.out.1])
    have hw := (Below.refl w.heap.size w).alloc (Nat.le_refl _) (.cells #[] 46)
    have ho := World.ownsRow_lit (base := w.heap.size) (e := 46) (size := 4) w #[] 0 (Nat.le_refl _) (by unfold maxLen; omega) rfl
    have hr2 := hr.below ((Below.refl w.heap.size w).alloc (Nat.le_refl _) (.cells #[] 46))
    go_enter Try.func34, Try.ntmps34
    go_wp2_with (at_builtin; go_must (refine wpList_append_src _ rfl (.tmp 5) (.tmp 6) 23 rfl w.heap.size 46 4 48 el_item _ _ _ ho rfl _ _ _ _ hr2 hfl.out rfl (itf_one l) (by unfold maxLen; omega) (by omega) (by simp) ?_); intro v1 w1 ho1 hb1)
    go_ret
    exact ⟨v1, rfl, by rw [Hn.out.1]; simpa using ho1, hw.trans hb1⟩

/-- Items inserted in memory of a call's own. -/
def InsEnd (w : World) (base : Nat) (l : List It) (e : Ending) (w' : World) : Prop := ∃ v, e = .returned v ∧ w'.ownsRow base 46 4 v l.length (itf l) ∧ Below base w w'
set_option maxRecDepth 20000 in
set_option maxHeartbeats 2000000 in
/-- At the end. -/
theorem insEnd_any (L : List It) (v : Value) (n base : Nat) (hn : L.length = n) (hl : n ≤ 1000000) (x : It) (w : World) (hbase : base ≤ w.heap.size) (ho : w.ownsRow base 46 4 v n (itf L)) :
    Calls Try.prog 40 #[v, .int .i64 (n : Nat), .slice (some ⟨w.heap.size, 0, none⟩) 1 1] (w.alloc (.cells #[.string x.p, .int .i64 x.id, .int .i64 x.sz, .string x.sm] 46)) (InsEnd w base (L ++ [x])) := by
  have HO := Lib.hid (And.intro ho hn)
  have HX := Lib.hid (show (#[.string x.p, .int .i64 x.id, .int .i64 x.sz, .string x.sm] : Array Value).toList = itf [x] ∧ True from ⟨rfl, trivial⟩)
  have hone : ∀ u ∈ (#[.string x.p, .int .i64 x.id, .int .i64 x.sz, .string x.sm] : Array Value).toList, u.oneCell' = true := fun u hu => by
    simp at hu
    rcases hu with rfl | rfl | rfl | rfl <;> rfl
  have HE := Lib.hid hone
  clear hn hone
  rcases ho.2 with ⟨rfl, rfl⟩ | ⟨g, cap, cur, rfl, hbg, hg, hnc, hcm, hcs, htake⟩
  · go_enter Try.func40, Try.ntmps40
    go_wp2_with (at_builtin; go_must (refine wpList_append_new _ rfl (.tmp 23) (.tmp 24) 23 rfl base 46 4 48 el_item _ _ _ HO.out.1 (by rfl) _ (by rfl) rfl HE.out (by unfold maxLen; omega) (by omega) hbase ?_); intro v2 w2 hown2 hb2)
    go_ret
    exact ⟨_, rfl, by rw [itf_app, List.length_append, HO.out.2]; exact hown2, hb2⟩
  · have HH := Lib.hid (And.intro hbg (And.intro hg (And.intro hcs htake)))
    clear hbg hg hcs htake ho
    by_cases hnc0 : n = cap
    · subst hnc0
      go_enter Try.func40, Try.ntmps40
      go_wp2_with (at_builtin; go_must (refine wpList_append_new _ rfl (.tmp 23) (.tmp 24) 23 rfl base 46 4 48 el_item _ _ _ HO.out.1 (by rfl) _ (by rfl) rfl HE.out (by unfold maxLen; omega) (by omega) hbase ?_); intro v2 w2 hown2 hb2)
      go_ret
      exact ⟨_, rfl, by rw [itf_app, List.length_append, HO.out.2]; exact hown2, hb2⟩
    · have hnc1 : ¬ (n = cap) := hnc0
      have hnc2 : ¬ (cap = n) := fun e => hnc0 e.symm
      go_enter Try.func40, Try.ntmps40
      go_wp2_with (at_builtin; go_must (refine wpList_append_new _ rfl (.tmp 23) (.tmp 24) 23 rfl base 46 4 48 el_item _ _ _ HO.out.1 (by rfl) _ (by rfl) rfl HE.out (by unfold maxLen; omega) (by omega) hbase ?_); intro v2 w2 hown2 hb2)
      go_ret
      exact ⟨_, rfl, by rw [itf_app, List.length_append, HO.out.2]; exact hown2, hb2⟩
end Go.Proofs.Ytnhbkfefpkocaaa
