/-
  The frame of a law's row: from 'the call returns true, and nothing that was there has turned' to the row's post. No function in sight. The frame of a law's row: an api.Extent as an argument (a struct of a struct).
-/
import Derived.Test.YtaagdoaeefhleaaDoorRows
import Derived.Test.YtaagdoaeefhleaaDoorP1
import Derived.ProofKit
import Derived.SizedLaws
namespace Go.Proofs.YtaagdoaeefhleaaDoor
open Go.ChangeShapes Go.WideShapes Go.ChangeAt Go.RowKit
set_option maxRecDepth 20000
open Go.ChangeMaps (open_string)

theorem Tryd.own : ownKnob Tryd.prog.godebug = none := by kernel_rfl
theorem Tryd.laidOut : laidOutB Tryd.prog = true := by kernel_rfl

/-- What a law's call comes to. -/
def Yes (w : World) (e : Ending) (w' : World) : Prop := e = .returned (.bool true) ∧ Below w.heap.size w w'

/-- The post of a row 'true, and each argument reads as it did', where nothing that was there has turned. -/
theorem yes_post {H : Type} {enc : TypeId × Value → H} {f : Func} {s : ChangeSpec} {W W' : World} {args : Array Value} {ds : List (DataW H)} {before pa : List MemPlace}
    (hW : DataW.Whole enc Tryd.prog f.params.toList s.vars false W args.toList ds [] before) (hv : s.vars = []) (ht : f.resultTypes = #[4])
    (hs : (s.fn H (ds ++ [])).results = [.lit (.bool true)]) (hs2 : (s.fn H (ds ++ [])).args = ds) (hs3 : (s.fn H (ds ++ [])).vars = [])
    (hargs : DataW.TrodAll enc Tryd.prog W' 0 (fun b => decide (b < W.heap.size)) true f.params.toList args.toList ds pa) (hpa : before = pa) (hb : Below W.heap.size W W') :
    s.post enc Tryd.prog f false true false false W args (.bool true) W' := by
  subst hpa
  refine ⟨ds, [], before, [], before, [], hW, ?_, ?_, ?_, World.keptBut_mono (fun p hp => ⟨hp, Or.inr (Or.inl hp)⟩) (hb.frame (· ∈ before)), fun h => by cases h⟩
  · rw [ht, hs]
    exact trodAll_mk1 (shut_bool Tryd.underlying4 true)
  · rw [hs2]
    exact hargs
  · rw [hv, hs3]
    rfl

theorem rd_of_ints {w : World} {k : IntKind} {a : Addr} {zs : List Int} {len : Nat} (h : ∀ i, i < zs.length → w.cell? (a.add i) = some (.int k (zs.getD i 0))) : Rd w (some a) ((zs.take len).map (Value.int k)) := by
  intro hn
  have h0 : 0 < zs.length := by
    cases zs with
    | nil => simp at hn
    | cons z zs => simp
  obtain ⟨b, o, sp⟩ := a
  have hsp : sp = none := by
    have := h 0 h0
    simp only [Addr.add, if_pos, World.cell?] at this
    cases sp with
    | none => rfl
    | some x => simp at this; split at this <;> simp at this
  subst hsp
  refine ⟨b, o, rfl, fun j u hj => ?_⟩
  rw [List.getElem?_map, List.getElem?_take] at hj
  split at hj
  · rcases hz : zs[j]? with _ | z
    · rw [hz] at hj; simp at hj
    · rw [hz] at hj
      simp at hj
      have hlt := (List.getElem?_eq_some_iff.1 hz).1
      have := h j hlt
      rw [add_mk] at this
      rw [this, ← hj, List.getD_eq_getElem?_getD, hz]
      rfl
  · simp at hj

section
variable {H : Type} {enc : TypeId × Value → H} {w : World} {b0 : Nat} {v : Value} {d : DataW H} {p : List MemPlace} {ts : List TypeId} {ds : List (DataW H)}
/-- An argument's shape, by its type: an int. -/
theorem arg_int (hval : Value.okWide Tryd.prog w .any b0 3 v) (h : DataW.Trod enc Tryd.prog w 0 (fun _ => true) true 3 v d p) (_hsz : (DataW.weightsEach Tryd.prog ts ds).all (· ≤ reachBytes) = true) (j : Nat) (_ht : ts[j]? = some 3) (_hd : ds[j]? = some d) :
    ∃ n : Int, v = .int .i64 n ∧ -9223372036854775808 ≤ n ∧ n ≤ 9223372036854775807 := by
  obtain ⟨n, rfl, rfl, rfl, wn⟩ := open_int Tryd.underlying3 hval h
  refine ⟨n, rfl, ?_⟩
  simp only [Lit.wf, IntKind.min, IntKind.max, IntKind.signed, IntKind.bits, Bool.and_eq_true, decide_eq_true_eq, if_true] at wn
  omega
/-- A string. -/
theorem arg_string (hval : Value.okWide Tryd.prog w .any b0 9 v) (h : DataW.Trod enc Tryd.prog w 0 (fun _ => true) true 9 v d p) (hsz : (DataW.weightsEach Tryd.prog ts ds).all (· ≤ reachBytes) = true) (j : Nat) (ht : ts[j]? = some 9) (hd : ds[j]? = some d) :
    ∃ s : ByteArray, v = .string s ∧ s.size ≤ 140737488351232 := by
  obtain ⟨s, rfl, rfl, _, hs⟩ := open_string Tryd.underlying9 hval h
  have := sized_string hsz ht hd
  have e : s.data.toList.length = s.size := rfl
  rw [e] at this
  exact ⟨s, rfl, Nat.le_trans this (by decide)⟩
/-- A slice of ints. -/
theorem arg_ints (hval : Value.okWide Tryd.prog w .any b0 26 v) (h : DataW.Trod enc Tryd.prog w 0 (fun _ => true) true 26 v d p) (hsz : (DataW.weightsEach Tryd.prog ts ds).all (· ≤ reachBytes) = true) (j : Nat) (ht : ts[j]? = some 26) (hd : ds[j]? = some d) :
    ∃ (A : Option Addr) (n c : Nat) (xs : List Int), v = .slice A n c ∧ xs.length = n ∧ n ≤ c ∧ c * 8 ≤ 140737488351232 ∧ Rd w A (xs.map (Value.int .i64)) := by
  obtain ⟨a0, len, cap, rfl⟩ := okWide_slice Tryd.underlying26 hval
  obtain ⟨fuel, hf⟩ := h
  rcases open_ints Tryd.underlying26 Tryd.underlying3 (by kernel_rfl) hf with ⟨hcs, _⟩ | ⟨a, len', cap', zs, hcs, _, hl, _, hz, hx, hcell, _⟩
  · simp [Value.cells] at hcs
    obtain ⟨rfl, rfl, rfl⟩ := hcs
    exact ⟨none, 0, 0, [], rfl, rfl, by omega, by omega, Rd.nil _ _⟩
  · simp [Value.cells] at hcs
    obtain ⟨rfl, rfl, rfl⟩ := hcs
    simp only [if_true] at hz
    obtain ⟨rfl, _⟩ := Prod.mk.inj hx
    have hr := sized_slice hsz ht hd Tryd.underlying26
    have hb : Tryd.prog.bytesOf 3 = 8 := by kernel_rfl
    rw [hb] at hr
    simp only [lits, List.length_map, List.length_take, List.length_drop, reachBytes] at hr
    exact ⟨some a, len, cap, zs.take len, rfl, by rw [List.length_take]; omega, hl, by omega, rd_of_ints hcell⟩
end
end Go.Proofs.YtaagdoaeefhleaaDoor
namespace Go.Proofs.YtaagdoaeefhleaaDoor
open Go.ChangeShapes Go.WideShapes Go.ChangeAt Go.RowKit
set_option maxRecDepth 20000

theorem cells_head : Tryd.prog.cellsOf 23 = 7 := by kernel_rfl
theorem cells_ext : Tryd.prog.cellsOf 25 = 8 := by kernel_rfl
theorem cells_int : Tryd.prog.cellsOf 3 = 1 := by kernel_rfl
theorem cells_str : Tryd.prog.cellsOf 9 = 1 := by kernel_rfl

section
variable {H : Type} {enc : TypeId × Value → H} {w : World} {base : Nat} {sp : Nat → Bool} {held : Bool}
theorem list7 {α : Type} {l : List α} (h : l.length = 7) : ∃ a b c d e f g, l = [a, b, c, d, e, f, g] := by
  match l, h with
  | [a, b, c, d, e, f, g], _ => exact ⟨a, b, c, d, e, f, g, rfl⟩
theorem list8 {α : Type} {l : List α} (h : l.length = 8) : ∃ a b c d e f g i, l = [a, b, c, d, e, f, g, i] := by
  match l, h with
  | [a, b, c, d, e, f, g, i], _ => exact ⟨a, b, c, d, e, f, g, i, rfl⟩
theorem opt_some {α : Type} {xs : List α} {n i : Nat} (h : xs.length = n) (hi : i < n) : ∃ y, xs[i]? = some y := ⟨xs[i]'(by omega), List.getElem?_eq_getElem (by omega)⟩
theorem one_int {fuel : Nat} {c : Value} {x : DataW H × List MemPlace} (h : DataW.trod enc Tryd.prog w base sp held fuel 3 [c] = some x) : ∃ n, c = .int .i64 n := by
  obtain ⟨n, hc, _, _⟩ := DataW.trod_int Tryd.underlying3 h
  exact ⟨n, by simpa using hc⟩
theorem one_str {fuel : Nat} {c : Value} {x : DataW H × List MemPlace} (h : DataW.trod enc Tryd.prog w base sp held fuel 9 [c] = some x) : ∃ s, c = .string s := by
  obtain ⟨n, hc, _, _⟩ := DataW.trod_string Tryd.underlying9 h
  exact ⟨n, by simpa using hc⟩
/-- A header's cells. -/
theorem open_head {fuel : Nat} {cs : List Value} {x : DataW H × List MemPlace} (h : DataW.trod enc Tryd.prog w base sp held fuel 23 cs = some x) :
    ∃ (id : Int) (sa : ByteArray) (n bs raw : Int) (ro ta : ByteArray), cs = [.int .i64 id, .string sa, .int .i64 n, .int .i64 bs, .int .i64 raw, .string ro, .string ta] := by
  obtain ⟨xs, n, _, _, hcl, hlen, hg⟩ := DataW.trod_struct Tryd.underlying23 h
  rw [cells_head] at hcl
  obtain ⟨c0, c1, c2, c3, c4, c5, c6, rfl⟩ := list7 hcl
  obtain ⟨y0, e0⟩ := opt_some (i := 0) hlen (by decide)
  obtain ⟨y1, e1⟩ := opt_some (i := 1) hlen (by decide)
  obtain ⟨y2, e2⟩ := opt_some (i := 2) hlen (by decide)
  obtain ⟨y3, e3⟩ := opt_some (i := 3) hlen (by decide)
  obtain ⟨y4, e4⟩ := opt_some (i := 4) hlen (by decide)
  obtain ⟨y5, e5⟩ := opt_some (i := 5) hlen (by decide)
  obtain ⟨y6, e6⟩ := opt_some (i := 6) hlen (by decide)
  have h0 := hg 0
  have h1 := hg 1
  have h2 := hg 2
  have h3 := hg 3
  have h4 := hg 4
  have h5 := hg 5
  have h6 := hg 6
  simp only [List.getElem?_toArray, List.getElem?_cons_zero, List.getElem?_cons_succ, Option.some.injEq, forall_eq', cells_int, cells_str, List.drop_zero, List.drop_succ_cons, List.take_succ_cons, List.take_zero] at h0 h1 h2 h3 h4 h5 h6
  rw [e0] at h0; rw [e1] at h1; rw [e2] at h2; rw [e3] at h3; rw [e4] at h4; rw [e5] at h5; rw [e6] at h6
  obtain ⟨id, rfl⟩ := one_int h0
  obtain ⟨sa, rfl⟩ := one_str h1
  obtain ⟨nn, rfl⟩ := one_int h2
  obtain ⟨bs, rfl⟩ := one_int h3
  obtain ⟨raw, rfl⟩ := one_int h4
  obtain ⟨ro, rfl⟩ := one_str h5
  obtain ⟨ta, rfl⟩ := one_str h6
  exact ⟨id, sa, nn, bs, raw, ro, ta, rfl⟩
end
section
variable {H : Type} {enc : TypeId × Value → H} {w : World} {b0 : Nat} {v : Value} {d : DataW H} {p : List MemPlace} {ts : List TypeId} {ds : List (DataW H)}
/-- An argument's shape, by its type: an api.Extent. -/
theorem arg_extent (hval : Value.okWide Tryd.prog w .any b0 25 v) (h : DataW.Trod enc Tryd.prog w 0 (fun _ => true) true 25 v d p) (_hsz : (DataW.weightsEach Tryd.prog ts ds).all (· ≤ reachBytes) = true) (j : Nat) (_ht : ts[j]? = some 25) (_hd : ds[j]? = some d) :
    ∃ (id : Int) (sa : ByteArray) (n bs raw : Int) (ro ta : ByteArray) (ba : Int), v = .agg #[.int .i64 id, .string sa, .int .i64 n, .int .i64 bs, .int .i64 raw, .string ro, .string ta, .int .i64 ba] := by
  obtain ⟨cs, rfl, hsz⟩ := okWide_struct Tryd.underlying25 hval
  obtain ⟨l⟩ := cs
  obtain ⟨fuel, hf⟩ := h
  obtain ⟨xs, n, _, _, hcl, hlen, hg⟩ := DataW.trod_struct Tryd.underlying25 hf
  rw [cells_ext] at hcl
  have hl : l.length = 8 := by simpa [Value.cells] using hcl
  obtain ⟨c0, c1, c2, c3, c4, c5, c6, c7, rfl⟩ := list8 hl
  obtain ⟨y0, e0⟩ := opt_some (i := 0) hlen (by decide)
  obtain ⟨y1, e1⟩ := opt_some (i := 1) hlen (by decide)
  have h0 := hg 0
  have h1 := hg 1
  simp only [List.getElem?_toArray, List.getElem?_cons_zero, List.getElem?_cons_succ, Option.some.injEq, forall_eq', Value.cells, cells_int, cells_head, List.drop_zero, List.drop_succ_cons, List.take_succ_cons, List.take_zero] at h0 h1
  rw [e0] at h0; rw [e1] at h1
  obtain ⟨id, sa, nn, bs, raw, ro, ta, he⟩ := open_head h0
  obtain ⟨ba, rfl⟩ := one_int h1
  simp only [List.cons.injEq] at he
  obtain ⟨rfl, rfl, rfl, rfl, rfl, rfl, rfl, _⟩ := he
  exact ⟨id, sa, nn, bs, raw, ro, ta, ba, rfl⟩
end
end Go.Proofs.YtaagdoaeefhleaaDoor
