/-
  The walk of path.Parts.
-/
import Derived.Test.YtfgneoalofnmaaaPathH
import Derived.Test.YtfgneoalofnmaaaPathE
namespace Go.Proofs.Ytfgneoalofnmaaa
open Go.RowKit Go.Shelf
attribute [local go_sem] Oper.semAt_some

/-- What path.Parts tells of a path. -/
def PartsOk (p : ByteArray) (w : World) (e : Ending) (w' : World) : Prop :=
  ∃ A c, e = .returned (.tuple #[.slice A (splB p).length c, .int .i64 0]) ∧ (splB p).length ≤ c ∧ c ≤ maxLen ∧ Rd w' A (sv (splB p)) ∧ Below w.heap.size w w'

/-- A slice of texts of the call's own, in a cell of its own. -/
def OwnIn (w : World) (g base : Nat) (s : List ByteArray) : Prop := ∃ v, Bk w g 29 #[v] ∧ w.ownsRow base 9 1 v s.length (sv s)
theorem bides_ownIn {Bn B g base n₀ : Nat} {w₀ : World} (hg : g ≠ Bn) (hb : Bn < base) (hn : n₀ ≤ w₀.heap.size) (hBn : n₀ ≤ Bn) (hB : n₀ ≤ B) : Bides Bn B (fun s W => OwnIn W g base s ∧ Below n₀ w₀ W) := by
  refine bides_below' (I := fun s W => OwnIn W g base s) ?_ hn hBn hB
  rintro s W W' ⟨v, hk, ho⟩ ⟨row, hr, h⟩
  refine ⟨v, (hr.block g hk.lt ?_).trans hk, ho.kept hr ?_⟩
  · intro e
    rcases h g e.symm with h | ⟨_, o, ho, hc⟩
    · exact hg h
    · rw [show W.heap[g]? = _ from hk] at ho; cases ho; cases hc
  · rcases ho.2 with ⟨rfl, _⟩ | ⟨k, cap, cur, rfl, hbk, hgg, _⟩
    · left; rfl
    · right
      intro e
      have e' : some k = row := e
      rcases h k e'.symm with h | ⟨_, o, ho, hc⟩
      · omega
      · rw [hgg] at ho; cases ho; cases hc

/-- Append of one element that was just laid in a block of its own, inside a fence. -/
theorem wpListIn_append_new {F : Fence} {fn : Nat} {P : Program} (w : World) {ops : Array Oper} {rest : List Oper} {o : Oper} {a : Act} {Q : Exit → Act → World → Prop} (hgd : o.guard = none) (s x : Operand) (t : TypeId)
    (ho : o.op = .call { callee := .builtin .append, args := #[s, x], argTypes := #[t, t] })
    (base : Nat) (e : TypeId) (size bytes : Nat) (hel : El P t e size bytes)
    (v : Value) (n : Nat) (xs : List Value) (hown : w.ownsRow base e size v n xs) (hs : a.eval s = v) (C : Array Value)
    (hx : a.eval x = .slice (some ⟨w.heap.size, 0, none⟩) 1 1) (hC : C.size = size) (h1 : ∀ u ∈ C.toList, u.oneCell' = true)
    (h63 : n + 1 ≤ maxLen) (hbytes : (n + 1) * bytes ≤ 140737488355328) (hbase : base ≤ w.heap.size)
    (h : ∀ v' w', w'.ownsRow base e size v' (n + 1) (xs ++ C.toList) → Below base w w' → KeepsOthers w w' → wpListIn F fn P ops Q rest (a.put o.dst v') w') : wpListIn F fn P ops Q (o :: rest) a (w.alloc (.cells C e)) := by
  obtain ⟨ht, hsz, i, z, hi, hz, hsize, hby, hzs⟩ := hel
  refine wpListIn_append_own (w.alloc (.cells C e)) hgd s x t ho base e i z size bytes ht hi hz hsize hby hzs hsz v n xs hs (hown.alloc _) ⟨w.heap.size, 0, none⟩ 1 1 C.toList hx (by simp [hC]) ?_ h1 h63 hbytes (by simp; omega) ?_
  · intro j u hj
    rw [add_mk, World.cell?_alloc_mark]
    simpa using hj
  · intro v' w' h2 h3 _
    refine h v' w' h2 (((Below.refl _ _).alloc hbase _).grown h3 (by simp; omega) fun k hk => (hown.lt k hk).1) ((KeepsOthers.alloc w _).trans (KeepsOthers.of_grownBy h3 fun j o ej hj => ?_))
    rcases (hown.alloc (.cells C e)).2 with ⟨rfl, _⟩ | ⟨g, cap, cur, rfl, _, hgg, _⟩
    · cases ej
    · have : g = j := by simpa [Value.ownBlock] using ej
      subst this
      rw [hgg] at hj
      cases hj
      rfl

set_option maxRecDepth 20000 in
theorem partsP_bad (p : ByteArray) (w : World) (hs : p.size ≤ 1000000) (hp : pathOk p.toList = false) :
    Calls Try.prog 18 #[.string p] w fun e w' => e = .returned (.tuple #[.slice none 0 0, .int .i64 5]) ∧ Below w.heap.size w w' := by
  have H1 := Lib.hid (okP_false hp)
  clear hp
  go_enter Try.func18, Try.ntmps18
  go_wp2_with fail
  (with_reducible refine (check_k p 5 H1.out (by omega) _).mono ?_)
  rintro e w1 ⟨rfl, hb1⟩
  go_wp2_with fail
  go_ret2
  exact ⟨rfl, hb1⟩

set_option maxRecDepth 20000 in
set_option maxHeartbeats 2000000 in
theorem partsP_ok (p : ByteArray) (w : World) (hs : p.size ≤ 1000000) (hp : pathOk p.toList = true) :
    Calls Try.prog 18 #[.string p] w (PartsOk p w) := by
  have HO := Lib.hid (okP_true hp)
  clear hp
  refine (callsIn_wide (n := 2)).1 ?_
  refine callsIn_of_wp_marks Try.func18 rfl trivial ?_
  simp only [Try.ntmps18, List.size_toArray, List.length_cons, List.length_nil, Nat.reduceAdd, Nat.reduceSub, Array.replicate_succ, Array.replicate_zero, List.push_toArray, List.append_toArray, List.nil_append, List.cons_append]
  gi_wp2_with fail
  refine ⟨trivial, (callsIn_wide.2 (check_k p 0 HO.out (by omega) _)).mono ?_⟩
  rintro e w0 ⟨rfl, hb0⟩
  gi_wp2_with fail
  refine ⟨trivial, (callsIn_wide.2 (parts_any p _)).mono ?_⟩
  rintro e w1 ⟨rfl, rfl⟩
  simp only [World.size_alloc]
  gi_wp2_with fail
  have hb1 := (hb0.alloc hb0.size (.cells #[.slice none 0 0] 29)).alloc (by simp; exact Nat.le_trans hb0.size (Nat.le_succ _)) (.cells #[.string p] 9)
  have hR1 : Bk ((w0.alloc (.cells #[.slice none 0 0] 29)).alloc (.cells #[.string p] 9)) w0.heap.size 29 #[.slice none 0 0] := (Bk.new _ _ _).alloc _
  have hP1 : Bk ((w0.alloc (.cells #[.slice none 0 0] 29)).alloc (.cells #[.string p] 9)) (w0.heap.size + 1) 9 #[.string p] := by
    have h := Bk.new (w0.alloc (.cells #[.slice none 0 0] 29)) 9 #[.string p]
    rw [World.size_alloc] at h
    exact h
  have hz1 : ((w0.alloc (.cells #[.slice none 0 0] 29)).alloc (.cells #[.string p] 9)).heap.size = w0.heap.size + 2 := by simp
  have hs0 := hb0.size
  generalize (w0.alloc (.cells #[.slice none 0 0] 29)).alloc (.cells #[.string p] 9) = w1 at *
  have hlen : (splB p).length ≤ 1000001 := by unfold splB spl; have := (foldP_le p.toList).1; rw [size_toList] at this; simp; omega
  clear HO hb0
  refine range_box (n := 2) rfl (enters_of Try.func27 (by kernel_rfl) rfl) rfl (w0.heap.size + 1) (by omega) (splB p) (by rw [show w1.heap[w0.heap.size + 1]? = _ from hP1]; exact parts_seq _ p (by omega) _)
    (fun pre W => OwnIn W w0.heap.size (w0.heap.size + 2) pre ∧ Below w.heap.size w W)
    (fun c _ W => False)
    (bides_ownIn (by omega) (by omega) (Nat.le_refl _) (by omega) (by omega))
    (fun c s W W' h _ => h)
    ⟨⟨_, hR1, World.ownsRow_nil _ _ _ _⟩, hb1⟩
    (fun x => { tmps := #[.string p, undef, .slice none 0 0, .int .i64 0, .int .i64 0, .pointer (some ⟨w0.heap.size, 0, none⟩), .string x, .string p, .int .i64 0, .int .i64 0, .bool false, undef, .string p, .func (.func 27) #[] #[.pointer (some ⟨w0.heap.size + 1, 0, none⟩)], .string x, undef, undef, undef, undef, undef], defers := [] }) ?assign ?body ?done ?stop
  case assign =>
    intro l x W K hK
    gi_wp2
    exact hK
  case stop =>
    rintro D c pre W hD h hK
    exact h.elim
  case body =>
    rintro l pre x W ⟨⟨v, hk, hown⟩, hb⟩ hx hsz
    have r0 : W.cell? ⟨w0.heap.size, 0, none⟩ = some v := hk.cell 0
    have r1 := hk.frozen 0
    have hpl : pre.length < (splB p).length := by have := hx.length_le; simp at this; omega
    gi_wp2_with (gi_at_builtin; go_must (refine wpListIn_append_new W rfl (.tmp 15) (.tmp 17) 29 rfl (w0.heap.size + 2) 9 1 16 el_str _ _ _ hown rfl _ rfl rfl (by intro u hu; simp at hu; subst hu; rfl) (by unfold maxLen; omega) (by omega) (by omega) ?_); intro v2 w2 hown2 hb2 hk2; obtain ⟨_, A2, c2, rfl, _⟩ := Sl.own hown2; have r2 : w2.cell? ⟨w0.heap.size, 0, none⟩ = some v := (hk.below hb2 (by omega)).cell 0; have r3 := (hk.below hb2 (by omega)).frozen 0)
    have hk3 : Bk w2 w0.heap.size 29 #[v] := hk.below hb2 (by omega)
    refine ⟨(hk2.trans (KeepsOthers.setCell _ _ _)).from _, ?_, ⟨_, hk3.set_ 0 _, ?_⟩, ((hb.trans (hb2.mono (by omega))).setCell (p := ⟨w0.heap.size, 0, none⟩) (by show w.heap.size ≤ w0.heap.size; omega) _)⟩
    · exact (Below.heap_setCell _ _ _ _ (by show w0.heap.size + 1 ≠ w0.heap.size; omega)).trans (hb2.block _ (by omega))
    · rw [List.length_append, ← sv_snoc]
      refine World.ownsRow.kept hown2 (only_set _ w0.heap.size 0 _) (.inr ?_)
      intro e
      have := (hown2.lt _ e).1
      omega
  case done =>
    rintro D W hD ⟨⟨v, hk, hown⟩, hb⟩ hK
    obtain ⟨_, A, c, rfl, hn1, hn2, hr⟩ := Sl.own hown
    have r0 : W.cell? ⟨w0.heap.size, 0, none⟩ = some (.slice A (splB p).length c) := hk.cell 0
    gi_wp2
    refine ⟨by simp, .inl ⟨_, _, rfl, run_takeDeferred hK, ?_⟩⟩
    refine ⟨.tuple #[.slice A (splB p).length c, .int .i64 0], ?_, A, c, rfl, hn1, hn2, ?_, ?_⟩
    · simp [results, Try.f18, go_sem]
    · exact hr.keep fun b o v hv => cell_kept hv (grownBy_putObj' _ D (.deferred none)) (fun r e => by cases e; exact ⟨_, hK, rfl⟩)
    · exact hb.trans (belowK_b (w := w) (Nat.le_refl _) _ D _ _ (by omega) hK rfl rfl)
end Go.Proofs.Ytfgneoalofnmaaa
