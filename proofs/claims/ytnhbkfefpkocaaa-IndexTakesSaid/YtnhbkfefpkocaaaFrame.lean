/-
  The frame of a law's row: from 'the call returns true, and nothing that was there has turned' to the row's post. No function in sight.
-/
import Derived.Test.YtnhbkfefpkocaaaRows
import Derived.Test.YtnhbkfefpkocaaaP1
import Derived.ProofKit
import Derived.SizedLaws
namespace Go.Proofs.Ytnhbkfefpkocaaa
open Go.ChangeShapes Go.WideShapes Go.ChangeAt Go.RowKit
set_option maxRecDepth 20000
open Go.ChangeMaps (open_string)

theorem Try.own : ownKnob Try.prog.godebug = none := by kernel_rfl
theorem Try.laidOut : laidOutB Try.prog = true := by kernel_rfl

/-- What a law's call comes to. -/
def Yes (w : World) (e : Ending) (w' : World) : Prop := e = .returned (.bool true) ∧ Below w.heap.size w w'

/-- The post of a row 'true, and each argument reads as it did', where nothing that was there has turned. -/
theorem yes_post {H : Type} {enc : TypeId × Value → H} {f : Func} {s : ChangeSpec} {W W' : World} {args : Array Value} {ds : List (DataW H)} {before pa : List MemPlace}
    (hW : DataW.Whole enc Try.prog f.params.toList s.vars false W args.toList ds [] before) (hv : s.vars = []) (ht : f.resultTypes = #[4])
    (hs : (s.fn H (ds ++ [])).results = [.lit (.bool true)]) (hs2 : (s.fn H (ds ++ [])).args = ds) (hs3 : (s.fn H (ds ++ [])).vars = [])
    (hargs : DataW.TrodAll enc Try.prog W' 0 (fun b => decide (b < W.heap.size)) true f.params.toList args.toList ds pa) (hpa : before = pa) (hb : Below W.heap.size W W') :
    s.post enc Try.prog f false true false false W args (.bool true) W' := by
  subst hpa
  refine ⟨ds, [], before, [], before, [], hW, ?_, ?_, ?_, World.keptBut_mono (fun p hp => ⟨hp, Or.inr (Or.inl hp)⟩) (hb.frame (· ∈ before)), fun h => by cases h⟩
  · rw [ht, hs]
    exact trodAll_mk1 (shut_bool Try.underlying4 true)
  · rw [hs2]
    exact hargs
  · rw [hv, hs3]
    rfl

theorem rd_of_ints {w : World} {k : IntKind} {a : Addr} {zs : List Int} {len : Nat} (h : ∀ i, i < zs.length → w.cell? (a.add i) = some (.int k (zs.getD i 0))) : Rd w (some a) ((zs.take len).map (Value.int k)) := by
  intro hn
  have h0 : 0 < zs.length := by
    cases zs with
    | nil => simp at hn
    | cons z zs => simp
  obtain ⟨b, o, sp⟩ := a
  have hsp : sp = none := by
    have := h 0 h0
    simp only [Addr.add, if_pos, World.cell?] at this
    cases sp with
    | none => rfl
    | some x => simp at this; split at this <;> simp at this
  subst hsp
  refine ⟨b, o, rfl, fun j u hj => ?_⟩
  rw [List.getElem?_map, List.getElem?_take] at hj
  split at hj
  · rcases hz : zs[j]? with _ | z
    · rw [hz] at hj; simp at hj
    · rw [hz] at hj
      simp at hj
      have hlt := (List.getElem?_eq_some_iff.1 hz).1
      have := h j hlt
      rw [add_mk] at this
      rw [this, ← hj, List.getD_eq_getElem?_getD, hz]
      rfl
  · simp at hj

section
variable {H : Type} {enc : TypeId × Value → H} {w : World} {b0 : Nat} {v : Value} {d : DataW H} {p : List MemPlace} {ts : List TypeId} {ds : List (DataW H)}
/-- An argument's shape, by its type: an int. -/
theorem arg_int (hval : Value.okWide Try.prog w .any b0 3 v) (h : DataW.Trod enc Try.prog w 0 (fun _ => true) true 3 v d p) (_hsz : (DataW.weightsEach Try.prog ts ds).all (· ≤ reachBytes) = true) (j : Nat) (_ht : ts[j]? = some 3) (_hd : ds[j]? = some d) :
    ∃ n : Int, v = .int .i64 n ∧ -9223372036854775808 ≤ n ∧ n ≤ 9223372036854775807 := by
  obtain ⟨n, rfl, rfl, rfl, wn⟩ := open_int Try.underlying3 hval h
  refine ⟨n, rfl, ?_⟩
  simp only [Lit.wf, IntKind.min, IntKind.max, IntKind.signed, IntKind.bits, Bool.and_eq_true, decide_eq_true_eq, if_true] at wn
  omega
/-- A string. -/
theorem arg_string (hval : Value.okWide Try.prog w .any b0 9 v) (h : DataW.Trod enc Try.prog w 0 (fun _ => true) true 9 v d p) (hsz : (DataW.weightsEach Try.prog ts ds).all (· ≤ reachBytes) = true) (j : Nat) (ht : ts[j]? = some 9) (hd : ds[j]? = some d) :
    ∃ s : ByteArray, v = .string s ∧ s.size ≤ 140737488351232 := by
  obtain ⟨s, rfl, rfl, _, hs⟩ := open_string Try.underlying9 hval h
  have := sized_string hsz ht hd
  have e : s.data.toList.length = s.size := rfl
  rw [e] at this
  exact ⟨s, rfl, Nat.le_trans this (by decide)⟩
/-- A slice of ints. -/
theorem arg_ints (hval : Value.okWide Try.prog w .any b0 63 v) (h : DataW.Trod enc Try.prog w 0 (fun _ => true) true 63 v d p) (hsz : (DataW.weightsEach Try.prog ts ds).all (· ≤ reachBytes) = true) (j : Nat) (ht : ts[j]? = some 63) (hd : ds[j]? = some d) :
    ∃ (A : Option Addr) (n c : Nat) (xs : List Int), v = .slice A n c ∧ xs.length = n ∧ n ≤ c ∧ c * 8 ≤ 140737488351232 ∧ Rd w A (xs.map (Value.int .i64)) := by
  obtain ⟨a0, len, cap, rfl⟩ := okWide_slice Try.underlying63 hval
  obtain ⟨fuel, hf⟩ := h
  rcases open_ints Try.underlying63 Try.underlying3 (by kernel_rfl) hf with ⟨hcs, _⟩ | ⟨a, len', cap', zs, hcs, _, hl, _, hz, hx, hcell, _⟩
  · simp [Value.cells] at hcs
    obtain ⟨rfl, rfl, rfl⟩ := hcs
    exact ⟨none, 0, 0, [], rfl, rfl, by omega, by omega, Rd.nil _ _⟩
  · simp [Value.cells] at hcs
    obtain ⟨rfl, rfl, rfl⟩ := hcs
    simp only [if_true] at hz
    obtain ⟨rfl, _⟩ := Prod.mk.inj hx
    have hr := sized_slice hsz ht hd Try.underlying63
    have hb : Try.prog.bytesOf 3 = 8 := by kernel_rfl
    rw [hb] at hr
    simp only [lits, List.length_map, List.length_take, List.length_drop, reachBytes] at hr
    exact ⟨some a, len, cap, zs.take len, rfl, by rw [List.length_take]; omega, hl, by omega, rd_of_ints hcell⟩
end
end Go.Proofs.Ytnhbkfefpkocaaa
