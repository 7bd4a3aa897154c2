/-
  Items in a row of a call's own: slices.Clone and slices.Insert. slices.Insert of one item in the midst.
-/
import Derived.Test.YtnhbkfefpkocaaaIxA
import Derived.Laws.CopyOwn
import Derived.Lib.AppendZerosOnto
import Derived.Lib.Overlaps
import Derived.Laws.Externs
import Derived.Lib.SliceRun
namespace Go.Proofs.Ytnhbkfefpkocaaa
open Go.RowKit Go.Sort

theorem Try.info46 : (Try.prog.info? 46).map (fun i => (i.zero, i.size, i.bytes)) = some (some (.agg #[.string ⟨#[]⟩, .int .i64 0, .int .i64 0, .string ⟨#[]⟩]), 4, 48) := by kernel_rfl
theorem el_item : El Try.prog 23 46 4 48 := El.mk_ (z := .agg #[.string ⟨#[]⟩, .int .i64 0, .int .i64 0, .string ⟨#[]⟩]) Try.underlying23 Try.info46 (by omega) rfl

section
variable {P : Program}
theorem run_copyK (w : World) (dT sT ty elem : TypeId) (size : Nat) (g o dLen dCap : Nat) (a : Addr) (sLen sCap : Nat) (cur : Array Value) (t : TypeId) (cs : List Value)
    (hu : P.underlying dT = some (.slice elem)) (hs : (P.info? elem).map (·.size) = some size)
    (hg : w.heap[g]? = some (.cells cur t (0, 0))) (hn : cs.length = Nat.min sLen dLen * size)
    (hsrc : ∀ j v, cs[j]? = some v → w.cell? (a.add j) = some v) (hfit : o + cs.length ≤ cur.size) (h1 : ∀ v ∈ cs, v.oneCell' = true) :
    (Builtin.copy_ #[dT, sT] ty #[.slice (some ⟨g, o, none⟩) dLen dCap, .slice (some a) sLen sCap]).run P w =
      .ok (goInt (Nat.min sLen dLen)) (w.setRow g (cur.toList.take o ++ cs ++ cur.toList.drop (o + cs.length)).toArray) := by
  have hl := run_loadCells_list (P := P) w a cs hsrc
  have hst := run_storeCells_at P g o t cs 0 cur w hg (by simpa using hfit) h1
  cases hq : P.info? elem with
  | none => simp [hq] at hs
  | some i =>
    have hi : i.size = size := by simpa [hq] using hs
    simp only [Builtin.copy_]
    simp [run_underlying hu, Builtin.lenOf, Builtin.firstCells, sizeOf, typeInfo, hq, hi, ← hn, hl, hst]
theorem wpList_copyK {w : World} {ops : Array Oper} {rest : List Oper} {o : Oper} {a : Act} {Q : Exit → Act → World → Prop} (hgd : o.guard = none) (d s : Operand) (dT sT : TypeId)
    (ho : o.op = .call { callee := .builtin .copy, args := #[d, s], argTypes := #[dT, sT] }) (elem : TypeId) (size : Nat) (hu : P.underlying dT = some (.slice elem)) (hsz : (P.info? elem).map (·.size) = some size)
    (g off dLen dCap : Nat) (ad : Addr) (sLen sCap : Nat) (hd : a.eval d = .slice (some ⟨g, off, none⟩) dLen dCap) (hs : a.eval s = .slice (some ad) sLen sCap)
    (cur : Array Value) (t : TypeId) (hg : w.heap[g]? = some (.cells cur t (0, 0))) (cs : List Value) (hn : cs.length = Nat.min sLen dLen * size)
    (hsrc : ∀ j v, cs[j]? = some v → w.cell? (ad.add j) = some v) (hfit : off + cs.length ≤ cur.size) (h1 : ∀ v ∈ cs, v.oneCell' = true) (B : Nat) (w0 : World) (hb : Below B w0 w) (hBg : B ≤ g)
    (h : ∀ w', Hid (w'.heap[g]? = some (.cells (splice cur.toList off cs).toArray t (0, 0))) → Below B w0 w' → (∀ k, k ≠ g → w'.heap[k]? = w.heap[k]?) → wpList P ops Q rest (a.put o.dst (goInt (Nat.min sLen dLen))) w') : wpList P ops Q (o :: rest) a w := by
  refine wpList_plain hgd fun K hK => ?_
  have hrun := run_copyK (P := P) w dT sT o.type elem size g off dLen dCap ad sLen sCap cur t cs hu hsz hg hn hsrc hfit h1
  unfold Oper.wp
  simp [execOp, ho, resolve, invoke, builtin, hd, hs, hrun, Result.andThen]
  exact hK _ _ (h _ (show _ = _ by simpa [splice] using setRow_heap w g _ _ t _ hg) (below_setRow hb hBg _) fun k hk => setRow_other w g k _ hk)
theorem step_copyK {ops : Array Oper} {o : Oper} {a : Act} {w : World} {K : Act → World → Prop} {Q : Exit → Act → World → Prop} {E : Prop} (hgd : o.guard = none) (d s : Operand) (dT sT : TypeId)
    (ho : o.op = .call { callee := .builtin .copy, args := #[d, s], argTypes := #[dT, sT] }) (elem : TypeId) (size : Nat) (hu : P.underlying dT = some (.slice elem)) (hsz : (P.info? elem).map (·.size) = some size)
    (g off dLen dCap : Nat) (ad : Addr) (sLen sCap : Nat) (hd : a.eval d = .slice (some ⟨g, off, none⟩) dLen dCap) (hs : a.eval s = .slice (some ad) sLen sCap)
    (cur : Array Value) (t : TypeId) (hg : w.heap[g]? = some (.cells cur t (0, 0))) (cs : List Value) (hn : cs.length = Nat.min sLen dLen * size)
    (hsrc : ∀ j v, cs[j]? = some v → w.cell? (ad.add j) = some v) (hfit : off + cs.length ≤ cur.size) (h1 : ∀ v ∈ cs, v.oneCell' = true) (B : Nat) (w0 : World) (hb : Below B w0 w) (hBg : B ≤ g)
    (h : ∀ w', Hid (w'.heap[g]? = some (.cells (splice cur.toList off cs).toArray t (0, 0))) → Below B w0 w' → (∀ k, k ≠ g → w'.heap[k]? = w.heap[k]?) → K (a.put o.dst (goInt (Nat.min sLen dLen))) w') :
    if Region.wanted o (yielded ops a.tmps) = true then Oper.wp P o a w K Q else E := by
  have hw : Region.wanted o (yielded ops a.tmps) = true := by simp [Region.wanted, hgd]
  rw [if_pos hw]
  have hrun := run_copyK (P := P) w dT sT o.type elem size g off dLen dCap ad sLen sCap cur t cs hu hsz hg hn hsrc hfit h1
  unfold Oper.wp
  simp [execOp, ho, resolve, invoke, builtin, hd, hs, hrun, Result.andThen]
  exact h _ (show _ = _ by simpa [splice] using setRow_heap w g _ _ t _ hg) (below_setRow hb hBg _) fun k hk => setRow_other w g k _ hk
end

theorem splice_head {α : Type} (c : List α) (o : Nat) (s : List α) (k : Nat) (h : k ≤ o) (hc : o ≤ c.length) : (splice c o s).take k = c.take k := by
  unfold splice
  rw [List.take_append_of_le_length (by rw [List.length_take]; omega), List.take_take, Nat.min_eq_left h]
theorem ins_row {cur : List Value} {L : List It} {x : It} {i n : Nat} (hn : L.length = n) (hi : i ≤ n) (h : cur.take (n * 4) = itf L) (hsz : (n + 1) * 4 ≤ cur.length) :
    (splice (splice cur ((i + 1) * 4) (itf (L.drop i))) (i * 4) (itf [x])).take ((n + 1) * 4) = itf (L.take i ++ x :: L.drop i) := by
  have hD : (itf (L.drop i)).length = (n - i) * 4 := by rw [itf_len, List.length_drop, hn]
  have hX : (itf [x]).length = 4 := rfl
  have hA : cur.take (i * 4) = itf (L.take i) := by
    rw [← itf_take, ← h, List.take_take, Nat.min_eq_left (by omega)]
  obtain ⟨D, hDe⟩ : ∃ D, itf (L.drop i) = D := ⟨_, rfl⟩
  obtain ⟨X, hXe⟩ : ∃ X, itf [x] = X := ⟨_, rfl⟩
  rw [show L.take i ++ x :: L.drop i = L.take i ++ ([x] ++ L.drop i) by simp, itf_app, itf_app, ← hA]
  rw [hDe] at hD ⊢
  rw [hXe] at hX ⊢
  unfold splice
  rw [hX, hD]
  have e1 : (cur.take ((i + 1) * 4) ++ (D ++ cur.drop ((i + 1) * 4 + (n - i) * 4))).take (i * 4) = cur.take (i * 4) := by
    rw [List.take_append_of_le_length (by rw [List.length_take]; omega), List.take_take, Nat.min_eq_left (by omega)]
  have e2 : (cur.take ((i + 1) * 4) ++ (D ++ cur.drop ((i + 1) * 4 + (n - i) * 4))).drop (i * 4 + 4) = D ++ cur.drop ((i + 1) * 4 + (n - i) * 4) := by
    rw [show i * 4 + 4 = (cur.take ((i + 1) * 4)).length by rw [List.length_take]; omega, List.drop_left]
  rw [e1, e2, ← List.append_assoc, ← List.append_assoc]
  rw [List.append_assoc (cur.take (i * 4)) X D]
  exact List.take_left' (by simp only [List.length_append, List.length_take, hX, hD]; omega)
theorem ins_new {R : List Value} {L : List It} {x : It} {i n : Nat} (hn : L.length = n) (hi : i ≤ n) (h : R.take (i * 4) = itf (L.take i)) (hsz : (n + 1) * 4 ≤ R.length) :
    (splice (splice R (i * 4) (itf [x])) ((i + 1) * 4) (itf (L.drop i))).take ((n + 1) * 4) = itf (L.take i ++ x :: L.drop i) := by
  have hD : (itf (L.drop i)).length = (n - i) * 4 := by rw [itf_len, List.length_drop, hn]
  have hX : (itf [x]).length = 4 := rfl
  obtain ⟨D, hDe⟩ : ∃ D, itf (L.drop i) = D := ⟨_, rfl⟩
  obtain ⟨X, hXe⟩ : ∃ X, itf [x] = X := ⟨_, rfl⟩
  rw [show L.take i ++ x :: L.drop i = L.take i ++ ([x] ++ L.drop i) by simp, itf_app, itf_app, ← h]
  rw [hDe] at hD ⊢
  rw [hXe] at hX ⊢
  unfold splice
  rw [hX, hD]
  have e1 : (R.take (i * 4) ++ (X ++ R.drop (i * 4 + 4))).take ((i + 1) * 4) = R.take (i * 4) ++ X := by
    rw [← List.append_assoc]
    exact List.take_left' (by rw [List.length_append, List.length_take, hX]; omega)
  rw [e1, ← List.append_assoc, ← List.append_assoc]
  rw [List.append_assoc (R.take (i * 4)) X D]
  exact List.take_left' (by simp only [List.length_append, List.length_take, hX, hD]; omega)
theorem splice_len' {α : Type} (L : List α) (off : Nat) (cs : List α) (h : off + cs.length ≤ L.length) : (splice L off cs).length = L.length := length_splice L off cs h

/-- Items in memory of a call's own, as a call's answer. -/
def OwnI (w : World) (l : List It) (e : Ending) (w' : World) : Prop := ∃ v, e = .returned v ∧ w'.ownsRow w.heap.size 46 4 v l.length (itf l) ∧ Below w.heap.size w w'
set_option maxRecDepth 20000 in
set_option maxHeartbeats 2000000 in
theorem cloneI_any (l : List It) (A : Option Addr) (n c : Nat) (hn : l.length = n) (hl : n ≤ 1000000) (w : World) (hr : Rd w A (itf l)) :
    Calls Try.prog 34 #[.slice A n c] w (OwnI w l) := by
  have Hn := Lib.hid (And.intro hn trivial)
  clear hn
  cases A with
  | none =>
    have h0 : l = [] := by
      rcases List.eq_nil_or_concat l with h | ⟨a, b, h⟩
      · exact h
      · obtain ⟨_, _, e, _⟩ := hr (by intro e; have := itf_len l; rw [e, h] at this; simp at this)
        cases e
    subst h0
    obtain rfl : n = 0 := Hn.out.1.symm
    clear Hn
    have hnil := fun w => Go.Lib.run_eql_slice_nil (P := Try.prog) w 23 46 none 0 c 0 0 Try.underlying23
    go_enter Try.func34, Try.ntmps34
    go_wp2_with fail
    go_ret
    exact ⟨_, rfl, ⟨rfl, Or.inl ⟨rfl, rfl⟩⟩, Below.refl _ _⟩
  | some ad =>
    have hnil := fun w => Go.Lib.run_eql_slice_nil (P := Try.prog) w 23 46 (some ad) n c 0 0 Try.underlying23
    have hfl := Lib.hid (show (itf l).length = n * 4 by rw [itf_len, Hn.out.1])
    have hw := (Below.refl w.heap.size w).alloc (Nat.le_refl _) (.cells #[] 46)
    have ho := World.ownsRow_lit (base := w.heap.size) (e := 46) (size := 4) w #[] 0 (Nat.le_refl _) (by unfold maxLen; omega) rfl
    have hr2 := hr.below ((Below.refl w.heap.size w).alloc (Nat.le_refl _) (.cells #[] 46))
    go_enter Try.func34, Try.ntmps34
    go_wp2_with (at_builtin; go_must (refine wpList_append_src _ rfl (.tmp 5) (.tmp 6) 23 rfl w.heap.size 46 4 48 el_item _ _ _ ho rfl _ _ _ _ hr2 hfl.out rfl (itf_one l) (by unfold maxLen; omega) (by omega) (by simp) ?_); intro v1 w1 ho1 hb1)
    go_ret
    exact ⟨v1, rfl, by rw [Hn.out.1]; simpa using ho1, hw.trans hb1⟩

/-- Items inserted in memory of a call's own. -/
def InsEnd (w : World) (base : Nat) (l : List It) (e : Ending) (w' : World) : Prop := ∃ v, e = .returned v ∧ w'.ownsRow base 46 4 v l.length (itf l) ∧ Below base w w'
set_option maxRecDepth 20000 in
set_option maxHeartbeats 2000000 in
/-- At the end. -/
theorem insEnd_any (L : List It) (v : Value) (n base : Nat) (hn : L.length = n) (hl : n ≤ 1000000) (x : It) (w : World) (hbase : base ≤ w.heap.size) (ho : w.ownsRow base 46 4 v n (itf L)) :
    Calls Try.prog 40 #[v, .int .i64 (n : Nat), .slice (some ⟨w.heap.size, 0, none⟩) 1 1] (w.alloc (.cells #[.string x.p, .int .i64 x.id, .int .i64 x.sz, .string x.sm] 46)) (InsEnd w base (L ++ [x])) := by
  have HO := Lib.hid (And.intro ho hn)
  have HX := Lib.hid (show (#[.string x.p, .int .i64 x.id, .int .i64 x.sz, .string x.sm] : Array Value).toList = itf [x] ∧ True from ⟨rfl, trivial⟩)
  have hone : ∀ u ∈ (#[.string x.p, .int .i64 x.id, .int .i64 x.sz, .string x.sm] : Array Value).toList, u.oneCell' = true := fun u hu => by
    simp at hu
    rcases hu with rfl | rfl | rfl | rfl <;> rfl
  have HE := Lib.hid hone
  clear hn hone
  rcases ho.2 with ⟨rfl, rfl⟩ | ⟨g, cap, cur, rfl, hbg, hg, hnc, hcm, hcs, htake⟩
  · go_enter Try.func40, Try.ntmps40
    go_wp2_with (at_builtin; go_must (refine wpList_append_new _ rfl (.tmp 23) (.tmp 24) 23 rfl base 46 4 48 el_item _ _ _ HO.out.1 (by rfl) _ (by rfl) rfl HE.out (by unfold maxLen; omega) (by omega) hbase ?_); intro v2 w2 hown2 hb2)
    go_ret
    exact ⟨_, rfl, by rw [itf_app, List.length_append, HO.out.2]; exact hown2, hb2⟩
  · have HH := Lib.hid (And.intro hbg (And.intro hg (And.intro hcs htake)))
    clear hbg hg hcs htake ho
    by_cases hnc0 : n = cap
    · subst hnc0
      go_enter Try.func40, Try.ntmps40
      go_wp2_with (at_builtin; go_must (refine wpList_append_new _ rfl (.tmp 23) (.tmp 24) 23 rfl base 46 4 48 el_item _ _ _ HO.out.1 (by rfl) _ (by rfl) rfl HE.out (by unfold maxLen; omega) (by omega) hbase ?_); intro v2 w2 hown2 hb2)
      go_ret
      exact ⟨_, rfl, by rw [itf_app, List.length_append, HO.out.2]; exact hown2, hb2⟩
    · have hnc1 : ¬ (n = cap) := hnc0
      have hnc2 : ¬ (cap = n) := fun e => hnc0 e.symm
      go_enter Try.func40, Try.ntmps40
      go_wp2_with (at_builtin; go_must (refine wpList_append_new _ rfl (.tmp 23) (.tmp 24) 23 rfl base 46 4 48 el_item _ _ _ HO.out.1 (by rfl) _ (by rfl) rfl HE.out (by unfold maxLen; omega) (by omega) hbase ?_); intro v2 w2 hown2 hb2)
      go_ret
      exact ⟨_, rfl, by rw [itf_app, List.length_append, HO.out.2]; exact hown2, hb2⟩
end Go.Proofs.Ytnhbkfefpkocaaa
namespace Go.Proofs.Ytnhbkfefpkocaaa
open Go.RowKit Go.Sort

set_option maxRecDepth 20000 in
set_option maxHeartbeats 4000000 in
/-- In the midst, with room. -/
theorem insRoom_any (L : List It) (g n cap i base : Nat) (cur : Array Value) (hn : L.length = n) (hl : n ≤ 1000000) (hi : i < n) (hroom : n + 1 ≤ cap) (hcm : cap ≤ maxLen) (x : It) (w : World) (hbg : base ≤ g) (hg : Bk w g 46 cur) (hcs : cur.size = cap * 4) (htk : cur.toList.take (n * 4) = itf L) :
    Calls Try.prog 40 #[.slice (some ⟨g, 0, none⟩) n cap, .int .i64 (i : Nat), .slice (some ⟨w.heap.size, 0, none⟩) 1 1] (w.alloc (.cells #[.string x.p, .int .i64 x.id, .int .i64 x.sz, .string x.sm] 46)) (InsEnd w base (L.take i ++ x :: L.drop i)) := by
  have hglt := hg.lt
  have hX : (#[.string x.p, .int .i64 x.id, .int .i64 x.sz, .string x.sm] : Array Value).toList = itf [x] := rfl
  have hone : ∀ u ∈ itf [x], u.oneCell' = true := itf_one [x]
  have hdl : (itf (L.drop i)).length = (n - i) * 4 := by rw [itf_len, List.length_drop, hn]
  have hov : ∀ lb cb (w' : World), w'.heap = (w.alloc (.cells #[.string x.p, .int .i64 x.id, .int .i64 x.sz, .string x.sm] 46)).heap → (callFunc 67 #[.slice (some ⟨w.heap.size, 0, none⟩) 1 1, .slice (some ⟨g, (i + 1) * 4, none⟩) lb cb]).run Try.prog w' = .ok (.value (.bool false)) w' := fun lb cb w' hw' => by
    rw [run_callFunc_extern Try.func67 (by kernel_rfl) (by kernel_rfl) (by kernel_rfl) (e := Extern.SlicesOverlaps.overlaps #[23, 23] #[4]) (by kernel_rfl),
      Lib.run_overlaps_apart w' 23 4 46 Try.underlying23 4 Try.sizeOf46 ⟨w.heap.size, 0, none⟩ ⟨g, (i + 1) * 4, none⟩ 1 1 lb cb (by show w.heap.size ≠ g; omega) 46 46 4 (cap * 4)
        (by unfold World.shape?; rw [hw', heap_alloc_new w _]; rfl) (by unfold World.shape?; rw [hw', show (w.alloc (.cells #[.string x.p, .int .i64 x.id, .int .i64 x.sz, .string x.sm] 46)).heap[g]? = _ from hg.alloc _, ← hcs]) (by omega) (by unfold World.frozen?; rw [hw', heap_alloc_new w _]; rfl) (by unfold World.frozen?; rw [hw', heap_alloc_new w _]; rfl)]
    rfl
  have hsz : (Try.prog.info? 46).map (·.size) = some 4 := by kernel_rfl
  have hw1 : IntKind.i64.wrap ((i : Int) + 1) = (i : Int) + 1 := by rw [IntKind.wrap_i64]; omega
  have hb1 : (0 : Int) ≤ (i : Int) + 1 := by omega
  have htn : ((i : Int) + 1).toNat = i + 1 := by omega
  have hb2 : ¬ (cap = i + 1) := by omega
  have hb4 : ¬ (cap = i) := by omega
  have hb3 : (i : Int) ≤ (n : Int) + 1 := by omega
  have hin : (i : Int) + 1 ≤ (n : Int) + 1 := by omega
  have HX := Lib.hid (And.intro hX trivial)
  have hgA := hg.alloc (.cells #[.string x.p, .int .i64 x.id, .int .i64 x.sz, .string x.sm] 46)
  have hxA := heap_alloc_new w (.cells #[.string x.p, .int .i64 x.id, .int .i64 x.sz, .string x.sm] 46)
  have hbA := (Below.refl w.heap.size w).alloc (Nat.le_refl _) (.cells #[.string x.p, .int .i64 x.id, .int .i64 x.sz, .string x.sm] 46)
  have HG := Lib.hid (And.intro hgA (And.intro hxA (And.intro hbA hg)))
  have HH := Lib.hid (And.intro hn (And.intro hcs (And.intro htk (And.intro hdl hsz))))
  clear hX hgA hxA hbA hg hn hcs htk hdl hsz
  go_enter Try.func40, Try.ntmps40
  go_wp2_with fail
  have hmin : Nat.min (n + 1 - i) (n - i) = n - i := Nat.min_eq_right (by omega)
  have hmin1 : Nat.min 1 (n + 1 - i) = 1 := Nat.min_eq_left (by omega)
  have HM := Lib.hid (And.intro hmin hmin1)
  have HS : Hid (∀ j v, (itf (L.drop i))[j]? = some v → (w.alloc (.cells #[.string x.p, .int .i64 x.id, .int .i64 x.sz, .string x.sm] 46)).drew.cell? ((⟨g, i * 4, none⟩ : Addr).add j) = some v) := Lib.hid fun j v hj => by
    rw [add_mk]
    rw [← itf_drop, ← HH.out.2.2.1, List.getElem?_drop, List.getElem?_take] at hj
    split at hj
    · exact (HG.out.1.cell _).trans (by simpa using hj)
    · cases hj
  have HF : Hid ((i + 1) * 4 + (itf (L.drop i)).length ≤ cur.size ∧ True) := Lib.hid ⟨by rw [HH.out.2.2.2.1, HH.out.2.1]; omega, trivial⟩
  clear hmin hmin1
  go_region_law (refine step_copyK rfl (.tmp 73) (.tmp 76) 23 23 rfl 46 4 Try.underlying23 HH.out.2.2.2.2 g ((i + 1) * 4) (n - i) (cap - (i + 1)) ⟨g, i * 4, none⟩ (n + 1 - i) (cap - i) (by simp [Act.eval, Act.put]) (by simp [Act.eval, Act.put]) cur 46 HG.out.1 (itf (L.drop i)) (by rw [HH.out.2.2.2.1, HM.out.1]) HS.out HF.out.1 (itf_one _) base w ((HG.out.2.2.1.mono (by omega)).drew) hbg ?_; intro w4 hg4 hb4 hk4)
  all_goals
    have hX4 : w4.heap[w.heap.size]? = some (.cells #[.string x.p, .int .i64 x.id, .int .i64 x.sz, .string x.sm] 46 (0, 0)) := (hk4 _ (by omega)).trans HG.out.2.1
    have HX4 := Lib.hid (And.intro hX4 hb4)
    have hlen1 : (splice cur.toList ((i + 1) * 4) (itf (L.drop i))).length = cap * 4 := by rw [splice_len' _ _ _ (by rw [Array.length_toList]; exact HF.out.1), Array.length_toList, HH.out.2.1]
    have HL1 := Lib.hid (And.intro hlen1 trivial)
    obtain ⟨c1, hc1⟩ : ∃ c1, splice cur.toList ((i + 1) * 4) (itf (L.drop i)) = c1 := ⟨_, rfl⟩
    rw [hc1] at hg4 HL1
    have HC1 := Lib.hid (And.intro hc1 trivial)
    clear hX4 hb4 hk4 hlen1 hc1
    go_wp2_with ((refine wpList_copyK rfl (.tmp 80) (.tmp 81) 23 23 rfl 46 4 Try.underlying23 HH.out.2.2.2.2 g (i * 4) (n + 1 - i) (cap - i) ⟨w.heap.size, 0, none⟩ 1 1 (by rfl) (by rfl) c1.toArray 46 hg4.out (itf [x]) (by rw [HM.out.2]; rfl) (fun j v hj => by rw [add_mk, Nat.zero_add]; exact (cell_of_row w4 w.heap.size j _ _ (0, 0) HX4.out.1).trans (by rw [← HX.out.1] at hj; simpa using hj)) (by rw [List.size_toArray, HL1.out.1, show (itf [x]).length = 4 from rfl]; omega) (itf_one _) base w HX4.out.2 hbg ?_); intro w5 hg5 hb5 _)
    go_ret
    refine ⟨_, rfl, ⟨?_, Or.inr ⟨g, cap, _, ?_, hbg, hg5.out, ?_, hcm, ?_, ?_⟩⟩, hb5⟩
    · rw [itf_len]
    · have e : (L.take i ++ x :: L.drop i).length = n + 1 := by rw [List.length_append, List.length_cons, List.length_take, List.length_drop, HH.out.1]; omega
      rw [e]
      rfl
    · have e : (L.take i ++ x :: L.drop i).length = n + 1 := by rw [List.length_append, List.length_cons, List.length_take, List.length_drop, HH.out.1]; omega
      rw [e]
      exact hroom
    · rw [List.size_toArray, splice_len' _ _ _ (by rw [HL1.out.1, show (itf [x]).length = 4 from rfl]; omega), HL1.out.1]
    · have e : (L.take i ++ x :: L.drop i).length = n + 1 := by rw [List.length_append, List.length_cons, List.length_take, List.length_drop, HH.out.1]; omega
      rw [e, ← HC1.out.1]
      exact ins_row HH.out.1 (by omega) HH.out.2.2.1 (by rw [Array.length_toList, HH.out.2.1]; omega)

set_option maxRecDepth 20000 in
set_option maxHeartbeats 4000000 in
/-- In the midst, without room. -/
theorem insGrow_any (L : List It) (g n cap i base : Nat) (cur : Array Value) (hn : L.length = n) (hl : n ≤ 1000000) (hi : i < n) (hnc : n ≤ cap) (hroom : cap < n + 1) (x : It) (w : World) (hbase : base ≤ w.heap.size) (hg : Bk w g 46 cur) (htk : cur.toList.take (n * 4) = itf L) :
    Calls Try.prog 40 #[.slice (some ⟨g, 0, none⟩) n cap, .int .i64 (i : Nat), .slice (some ⟨w.heap.size, 0, none⟩) 1 1] (w.alloc (.cells #[.string x.p, .int .i64 x.id, .int .i64 x.sz, .string x.sm] 46)) (InsEnd w base (L.take i ++ x :: L.drop i)) := by
  obtain rfl : cap = n := by omega
  have hglt := hg.lt
  have hX : (#[.string x.p, .int .i64 x.id, .int .i64 x.sz, .string x.sm] : Array Value).toList = itf [x] := rfl
  have hdl : (itf (L.drop i)).length = (cap - i) * 4 := by rw [itf_len, List.length_drop, hn]
  have hsz : (Try.prog.info? 46).map (·.size) = some 4 := by kernel_rfl
  obtain ⟨w1, hw1⟩ : ∃ w1, w.alloc (.cells #[.string x.p, .int .i64 x.id, .int .i64 x.sz, .string x.sm] 46) = w1 := ⟨_, rfl⟩
  have hg1 : Bk w1 g 46 cur := by rw [← hw1]; exact hg.alloc _
  have hx1 : w1.heap[w.heap.size]? = some (.cells #[.string x.p, .int .i64 x.id, .int .i64 x.sz, .string x.sm] 46 (0, 0)) := by rw [← hw1]; exact heap_alloc_new w _
  have hb1 : Below w.heap.size w w1 := by rw [← hw1]; exact (Below.refl w.heap.size w).alloc (Nat.le_refl _) _
  have hs1 : w1.heap.size = w.heap.size + 1 := by rw [← hw1]; simp
  obtain ⟨i0, hi0, hz0, hzs, hzb⟩ := info_parts Try.info46
  have htk2 : ∀ j v, (itf (L.take i))[j]? = some v → w1.cell? ⟨g, j, none⟩ = some v := fun j v hj => by
    rw [← itf_take, ← htk, List.getElem?_take] at hj
    split at hj
    · rw [List.getElem?_take] at hj
      split at hj
      · exact (hg1.cell _).trans (by simpa using hj)
      · cases hj
    · cases hj
  have hold : (Builtin.firstCells i0.size i (.slice (some ⟨g, 0, none⟩) i cap)).run Try.prog w1.drew = .ok (itf (L.take i)).toArray w1.drew := by
    rw [hzs]
    exact run_firstCells_some w1.drew 4 i ⟨g, 0, none⟩ i cap (itf (L.take i)) (by rw [itf_len, List.length_take, hn, Nat.min_eq_left (by omega)]) (fun j v hj => by rw [add_mk, Nat.zero_add]; exact htk2 j v hj)
  obtain ⟨k, hk⟩ : ∃ k, cap + 1 - i = k := ⟨_, rfl⟩
  have hik : i + k = cap + 1 := by omega
  have hkI : (cap : Int) + 1 - (i : Int) = (k : Int) := by omega
  have hrz := fun ty => Lib.run_append_grow_zeros w1 23 3 ty 46 i0 _ .i64 .i64 Try.underlying23 Try.underlying3 hi0 hz0 (some ⟨g, 0, none⟩) i cap (itf (L.take i)) hold k (by omega) (by rw [hzs]; omega) (by omega) (by omega) (by rw [hzb]; omega) (by rw [hzb, hik]; exact growslice_fits (by omega) (by omega))
  rw [hik] at hrz
  obtain ⟨G, hG⟩ : ∃ G, grownCap w1 (cap + 1) cap 46 = G := ⟨_, rfl⟩
  have hGn : cap + 1 ≤ G := by rw [← hG]; exact grownCap_ge w1 _ _ _
  have hGm : G ≤ maxLen := by rw [← hG]; exact grownCap_le_maxLen w1 (cap + 1) cap 46 (by unfold maxLen; omega)
  rw [hG] at hrz
  obtain ⟨ROW, hROW⟩ : ∃ ROW : Array Value, (itf (L.take i)).toArray ++ Builtin.zeroCells (Value.agg #[.string ⟨#[]⟩, .int .i64 0, .int .i64 0, .string ⟨#[]⟩]).cells k ++ Builtin.zeroCells (Value.agg #[.string ⟨#[]⟩, .int .i64 0, .int .i64 0, .string ⟨#[]⟩]).cells (G - (cap + 1)) = ROW := ⟨_, rfl⟩
  rw [hROW] at hrz
  have hRs : ROW.size = G * 4 := by
    have hz4 : (Value.agg #[.string ⟨#[]⟩, .int .i64 0, .int .i64 0, .string ⟨#[]⟩]).cells.size = 4 := rfl
    rw [← hROW, Array.size_append, Array.size_append, List.size_toArray, size_zeroCells, size_zeroCells, hz4, itf_len, List.length_take, hn, Nat.min_eq_left (by omega)]
    omega
  have hRt : ROW.toList.take (i * 4) = itf (L.take i) := by
    rw [← hROW, Array.toList_append, Array.toList_append, List.append_assoc]
    exact List.take_left' (by rw [List.toList_toArray, itf_len, List.length_take, hn, Nat.min_eq_left (by omega)])
  obtain ⟨w2, hw2⟩ : ∃ w2, w1.drew.alloc (.cells ROW 46) = w2 := ⟨_, rfl⟩
  rw [hw2] at hrz
  have hR2 : w2.heap[w.heap.size + 1]? = some (.cells ROW 46 (0, 0)) := by rw [← hw2, ← hs1]; exact heap_alloc_new w1.drew _
  have hb2 : Below w1.heap.size w1 w2 := by rw [← hw2]; exact (Below.refl w1.heap.size w1).drew.alloc (Nat.le_refl _) _
  have hg2 : Bk w2 g 46 cur := hg1.below' hb2
  have hx2 : w2.heap[w.heap.size]? = some (.cells #[.string x.p, .int .i64 x.id, .int .i64 x.sz, .string x.sm] 46 (0, 0)) := (hb2.block _ (by omega)).trans hx1
  have hbw2 : Below w.heap.size w w2 := hb1.trans (hb2.mono (by omega))
  rw [hs1] at hrz
  have H2 := Lib.hid (And.intro hR2 (And.intro hg2 (And.intro hx2 hbw2)))
  have HR := Lib.hid (And.intro hRs hRt)
  have HH := Lib.hid (And.intro hn (And.intro htk (And.intro hdl hsz)))
  have HX := Lib.hid (And.intro hX trivial)
  have hw1' : IntKind.i64.wrap ((i : Int) + 1) = (i : Int) + 1 := by rw [IntKind.wrap_i64]; omega
  have hz1 : (0 : Int) ≤ (i : Int) + 1 := by omega
  have htn : ((i : Int) + 1).toNat = i + 1 := by omega
  have hGi : ¬ (G = i) := by omega
  have hGim : ¬ (G = i + 1) := by omega
  have hci : ¬ (cap = i) := by omega
  have hic : i ≤ cap := by omega
  have HRZ := Lib.hid hrz
  clear hg hg1 hx1 hb1 hs1 hi0 hz0 hzs hzb htk2 hold hG hROW hRs hRt hR2 hb2 hg2 hx2 hbw2 hn htk hdl hsz hX hw2 hrz hk hnc
  rw [hw1]
  clear hw1
  go_enter Try.func40, Try.ntmps40
  have hmin1 : Nat.min 1 (cap + 1 - i) = 1 := Nat.min_eq_left (by omega)
  have HM := Lib.hid (And.intro hmin1 (show Nat.min (cap - i) (cap - i) = cap - i from Nat.min_self (cap - i)))
  have HSX : Hid (∀ j v, (itf [x])[j]? = some v → w2.cell? ((⟨w.heap.size, 0, none⟩ : Addr).add j) = some v) := Lib.hid fun j v hj => by
    rw [add_mk, Nat.zero_add]
    exact (cell_of_row w2 w.heap.size j _ _ (0, 0) H2.out.2.2.1).trans (by rw [← HX.out.1] at hj; simpa using hj)
  have HF1 : Hid (i * 4 + (itf [x]).length ≤ ROW.size ∧ True) := Lib.hid ⟨by rw [HR.out.1, show (itf [x]).length = 4 from rfl]; omega, trivial⟩
  clear hmin1
  go_wp2_with (first | (at_builtin; refine Lib.wpList_append_run _ rfl _ _ _ _ rfl _ _ rfl rfl _ _ (HRZ.out _) ?_) | (refine wpList_copyK rfl (.tmp 43) (.tmp 44) 23 23 rfl 46 4 Try.underlying23 HH.out.2.2.2 (w.heap.size + 1) (i * 4) (cap + 1 - i) (G - i) ⟨w.heap.size, 0, none⟩ 1 1 (by rfl) (by rfl) ROW 46 H2.out.1 (itf [x]) (by rw [HM.out.1]; rfl) HSX.out HF1.out.1 (itf_one _) w.heap.size w H2.out.2.2.2 (by omega) ?_; intro w4 hg4 hb4 hk4))
  have hg5 : Bk w4 g 46 cur := (hk4 g (by omega)).trans H2.out.2.1
  obtain ⟨c1, hc1⟩ : ∃ c1, splice ROW.toList (i * 4) (itf [x]) = c1 := ⟨_, rfl⟩
  have hlen1 : c1.length = G * 4 := by rw [← hc1, splice_len' _ _ _ (by rw [Array.length_toList]; exact HF1.out.1), Array.length_toList, HR.out.1]
  rw [hc1] at hg4
  have H4 := Lib.hid (And.intro hg5 (And.intro hb4 (And.intro hc1 hlen1)))
  have HS : Hid (∀ j v, (itf (L.drop i))[j]? = some v → w4.drew.cell? ((⟨g, i * 4, none⟩ : Addr).add j) = some v) := Lib.hid fun j v hj => by
    rw [add_mk]
    rw [← itf_drop, ← HH.out.2.1, List.getElem?_drop, List.getElem?_take] at hj
    split at hj
    · exact (H4.out.1.cell _).trans (by simpa using hj)
    · cases hj
  have HF : Hid ((i + 1) * 4 + (itf (L.drop i)).length ≤ c1.toArray.size ∧ True) := Lib.hid ⟨by rw [HH.out.2.2.1, List.size_toArray, hlen1]; omega, trivial⟩
  clear hg5 hb4 hk4 hc1 hlen1
  go_wp2_with fail
  go_region_law (refine step_copyK rfl (.tmp 50) (.tmp 53) 23 23 rfl 46 4 Try.underlying23 HH.out.2.2.2 (w.heap.size + 1) ((i + 1) * 4) (cap - i) (G - (i + 1)) ⟨g, i * 4, none⟩ (cap - i) (cap - i) (by simp [Act.eval, Act.put]) (by simp [Act.eval, Act.put]) c1.toArray 46 hg4.out (itf (L.drop i)) (by rw [HH.out.2.2.1, HM.out.2]) HS.out HF.out.1 (itf_one _) w.heap.size w (H4.out.2.1.drew) (by omega) ?_; intro w5 hg5 hb5 hk5)
  all_goals
    go_wp2_with fail
    go_ret
    have e : (L.take i ++ x :: L.drop i).length = cap + 1 := by rw [List.length_append, List.length_cons, List.length_take, List.length_drop, HH.out.1]; omega
    refine ⟨_, rfl, ⟨?_, Or.inr ⟨w.heap.size + 1, G, _, ?_, by omega, hg5.out, ?_, hGm, ?_, ?_⟩⟩, hb5.mono hbase⟩
    · rw [itf_len]
    · rw [e]
      rfl
    · rw [e]
      exact hGn
    · rw [List.size_toArray, splice_len' _ _ _ (by have := HF.out.1; rwa [List.size_toArray] at this), H4.out.2.2.2]
    · rw [e, ← H4.out.2.2.1]
      exact ins_new HH.out.1 (by omega) HR.out.2 (by rw [Array.length_toList, HR.out.1]; omega)

/-- slices.Insert of one item. -/
theorem insert_any (L : List It) (v : Value) (n i base : Nat) (hn : L.length = n) (hl : n ≤ 1000000) (hi : i ≤ n) (x : It) (w : World) (hbase : base ≤ w.heap.size) (ho : w.ownsRow base 46 4 v n (itf L)) :
    Calls Try.prog 40 #[v, .int .i64 (i : Nat), .slice (some ⟨w.heap.size, 0, none⟩) 1 1] (w.alloc (.cells #[.string x.p, .int .i64 x.id, .int .i64 x.sz, .string x.sm] 46)) (InsEnd w base (L.take i ++ x :: L.drop i)) := by
  rcases Nat.lt_or_eq_of_le hi with hlt | rfl
  · rcases ho.2 with ⟨rfl, rfl⟩ | ⟨g, cap, cur, rfl, hbg, hg, hnc, hcm, hcs, htake⟩
    · omega
    · by_cases hroom : n + 1 ≤ cap
      · exact insRoom_any L g n cap i base cur hn hl hlt hroom hcm x w hbg hg hcs htake
      · exact insGrow_any L g n cap i base cur hn hl hlt hnc (by omega) x w hbase hg htake
  · have := insEnd_any L v i base hn hl x w hbase ho
    rw [List.take_of_length_le (by omega), List.drop_eq_nil_of_le (by omega)]
    exact this
end Go.Proofs.Ytnhbkfefpkocaaa
