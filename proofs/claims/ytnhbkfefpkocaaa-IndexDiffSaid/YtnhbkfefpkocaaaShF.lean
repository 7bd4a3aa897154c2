/-
  sha: New, Write.
-/
import Derived.Test.YtnhbkfefpkocaaaShD
import Derived.Lib.AppendStr
namespace Go.Proofs.Ytnhbkfefpkocaaa
open Go.RowKit Go.Lib

theorem el_byteH : El Try.prog 80 5 1 1 := El.mk_ (z := .int .u8 0) Try.underlying80 (by kernel_rfl) (by decide) (by rfl)
theorem info_byteH : (Try.prog.info? 5).map (fun i => (i.zero, i.size, i.bytes)) = some (some (.int .u8 0), 1, 1) := by kernel_rfl
theorem strCells_valsH (s : ByteArray) : strCells s = byteVals s.toList := by
  rw [ByteArray.toList_eq]; rfl
theorem one_of_bytesH (l : List UInt8) : ∀ u ∈ byteVals l, u.oneCell' = true := fun u hu => by
  unfold byteVals at hu
  obtain ⟨x, _, rfl⟩ := List.mem_map.1 hu
  rfl
/-- 'append([]byte(nil), s...)', s a string. -/
theorem wpList_append_strN {P : Program} {ops : Array Oper} {rest : List Oper} {o : Oper} {a : Act} {w : World} {Q : Exit → Act → World → Prop} (hgd : o.guard = none) (sl x : Operand) (t u : TypeId)
    (ho : o.op = .call { callee := .builtin .append, args := #[sl, x], argTypes := #[t, u] })
    (e : TypeId) (ht : P.underlying t = some (.slice e)) (hu : P.underlying u = some .string) (hz : (P.info? e).map (fun i => (i.zero, i.size, i.bytes)) = some (some (.int .u8 0), 1, 1))
    (hs : a.eval sl = .slice none 0 0) (s : ByteArray) (hx : a.eval x = .string s) (hbytes : s.size ≤ 1000000000000)
    (h : ∀ A c w', s.size ≤ c → c ≤ maxLen → Rd w' A (byteVals s.toList) → (∀ ad, A = some ad → w.heap.size ≤ ad.block) → Below w.heap.size w w' → wpList P ops Q rest (a.put o.dst (.slice A s.size c)) w') : wpList P ops Q (o :: rest) a w := by
  obtain ⟨i, hi, z0, z1, z2⟩ := info_parts hz
  refine wpList_append_own_string w hgd sl x t u ho w.heap.size e i ht hu hi z0 z1 z2 (.slice none 0 0) 0 [] hs (World.ownsRow_nil _ _ _ _) s hx (by unfold maxLen; omega) (by omega) (Nat.le_refl _) ?_
  intro v' w' h2 h3 _
  rw [Nat.zero_add, List.nil_append, strCells_valsH] at h2
  have hb : Below w.heap.size w w' := ⟨h3.os, h3.tape, h3.output, h3.size, fun k hk => h3.block k hk (by simp [Value.ownBlock])⟩
  obtain ⟨A, c, hv, h4, h5, h6, h7, _⟩ := RetS.own h2 hb (Nat.le_refl _)
  obtain rfl : v' = .slice A s.size c := by injection hv
  exact h A c w' h4 h5 h6 h7 hb
/-- 'append([]byte(nil), b...)', b a slice. -/
theorem wpList_append_srcN {P : Program} {ops : Array Oper} {rest : List Oper} {o : Oper} {a : Act} {w : World} {Q : Exit → Act → World → Prop} (hgd : o.guard = none) (sl x : Operand) (t : TypeId)
    (ho : o.op = .call { callee := .builtin .append, args := #[sl, x], argTypes := #[t, t] })
    (e : TypeId) (hel : El P t e 1 1)
    (hs : a.eval sl = .slice none 0 0) (A0 : Option Addr) (m c0 : Nat) (l : List UInt8) (hr : Rd w A0 (byteVals l)) (hl : l.length = m) (hx : a.eval x = .slice A0 m c0) (hbytes : m ≤ 1000000000000)
    (h : ∀ A c w', m ≤ c → c ≤ maxLen → Rd w' A (byteVals l) → (∀ ad, A = some ad → w.heap.size ≤ ad.block) → w'.ownsRow w.heap.size e 1 (.slice A m c) m (byteVals l) → Below w.heap.size w w' → wpList P ops Q rest (a.put o.dst (.slice A m c)) w') : wpList P ops Q (o :: rest) a w := by
  refine wpList_append_src w hgd sl x t ho w.heap.size e 1 1 hel (.slice none 0 0) 0 [] (World.ownsRow_nil _ _ _ _) hs A0 m c0 (byteVals l) hr (by rw [byteVals_length, hl, Nat.mul_one]) hx (one_of_bytesH l) (by unfold maxLen; omega) (by omega) (Nat.le_refl _) ?_
  intro v' w' h2 hb
  rw [Nat.zero_add, List.nil_append] at h2
  obtain ⟨A, c, hv, h4, h5, h6, h7, _⟩ := RetS.own h2 hb (Nat.le_refl _)
  obtain rfl : v' = .slice A m c := by injection hv
  exact h A c w' h4 h5 h6 h7 h2 hb

/-- A text being summed: its cells. -/
def hrow (H : List Nat) (v : Value) (n : Nat) : Array Value := ((H.map fun k => Value.int .u32 (k : Nat)) ++ [v, .int .i64 (n : Nat)]).toArray
set_option maxRecDepth 20000 in
theorem shaNew_any (w : World) : Calls Try.prog 64 #[] w fun e w' => e = .returned (.pointer (some ⟨w.heap.size, 0, none⟩)) ∧ w' = w.alloc (.cells (hrow startW (.slice none 0 0) 0) 127) := by
  go_enter Try.func64, Try.ntmps64
  go_wp2_with fail
  go_ret
  exact ⟨rfl, rfl⟩
theorem Bk.cell_ {w : World} {g : Nat} {t : TypeId} {cs : Array Value} (h : Bk w g t cs) (i : Nat) (v : Value) (hv : cs[i]? = some v) : w.cell? ⟨g, i, none⟩ = some v := (h.cell i).trans hv
theorem blocks_step (H : List Nat) (rest : List UInt8) (h : 64 ≤ rest.length) : blocksW (rest.length / 64) H rest = blocksW ((rest.drop 64).length / 64) (mixW H (rest.take 64)) (rest.drop 64) := by
  rw [List.length_drop, show rest.length / 64 = (rest.length - 64) / 64 + 1 by omega]
  rfl
theorem drop_step (rest : List UInt8) (h : 64 ≤ rest.length) : rest.drop (64 * (rest.length / 64)) = (rest.drop 64).drop (64 * ((rest.drop 64).length / 64)) := by
  rw [List.length_drop, List.drop_drop]
  congr 1
  omega
theorem Rd.dropH {w : World} {b o : Nat} {l : List UInt8} (h : ∀ j u, (byteVals l)[j]? = some u → w.cell? ⟨b, o + j, none⟩ = some u) (k : Nat) : Rd w (some ⟨b, o + k, none⟩) (byteVals (l.drop k)) := fun _ =>
  ⟨b, o + k, rfl, fun j u hj => by
    rw [Nat.add_assoc]
    refine h (k + j) u ?_
    unfold byteVals at hj ⊢
    rw [List.map_drop, List.getElem?_drop] at hj
    exact hj⟩
theorem Rd.drewH {w : World} {A : Option Addr} {xs : List Value} (h : Rd w A xs) : Rd w.drew A xs := h.keep fun _ _ _ h => h
theorem mix_ok {H : List Nat} (h : Wd8 H) (b : List UInt8) : Wd8 (mixW H b) := by
  unfold mixW
  exact zip8_ok h.1 (rnds_ok _ _ _ h).1
theorem blocks_ok : ∀ (n : Nat) (H : List Nat) (b : List UInt8), Wd8 H → Wd8 (blocksW n H b)
  | 0, _, _, h => h
  | n + 1, H, b, h => blocks_ok n (mixW H (b.take 64)) (b.drop 64) (mix_ok h _)
theorem start_ok : Wd8 startW := by unfold Wd8; decide
theorem hrow_n (a0 a1 a2 a3 a4 a5 a6 a7 : Nat) (v : Value) (n m : Nat) : (hrow [a0, a1, a2, a3, a4, a5, a6, a7] v n).setIfInBounds 9 (.int .i64 (m : Nat)) = hrow [a0, a1, a2, a3, a4, a5, a6, a7] v m := by simp [hrow]
theorem hrow_left (a0 a1 a2 a3 a4 a5 a6 a7 : Nat) (v u : Value) (n : Nat) : (hrow [a0, a1, a2, a3, a4, a5, a6, a7] v n).setIfInBounds 8 u = hrow [a0, a1, a2, a3, a4, a5, a6, a7] u n := by simp [hrow]
theorem hrow_words (a0 a1 a2 a3 a4 a5 a6 a7 b0 b1 b2 b3 b4 b5 b6 b7 : Nat) (v : Value) (n : Nat) : (((((((((hrow [a0, a1, a2, a3, a4, a5, a6, a7] v n).setIfInBounds 0 (.int .u32 (b0 : Nat))).setIfInBounds 1 (.int .u32 (b1 : Nat))).setIfInBounds 2 (.int .u32 (b2 : Nat))).setIfInBounds 3 (.int .u32 (b3 : Nat))).setIfInBounds 4 (.int .u32 (b4 : Nat))).setIfInBounds 5 (.int .u32 (b5 : Nat))).setIfInBounds 6 (.int .u32 (b6 : Nat))).setIfInBounds 7 (.int .u32 (b7 : Nat))) = hrow [b0, b1, b2, b3, b4, b5, b6, b7] v n := by simp [hrow]
set_option maxRecDepth 20000 in
set_option maxHeartbeats 4000000 in
theorem write_any (s : ByteArray) (g : Nat) (w : World) (hs : s.size ≤ 1000000000) (hB : Bk w g 127 (hrow startW (.slice none 0 0) 0)) :
    Calls Try.prog 65 #[.pointer (some ⟨g, 0, none⟩), .string s] w fun e w' => e = .returned (.tuple #[]) ∧ ∃ A c, Bk w' g 127 (hrow (blocksW (s.size / 64) startW s.toList) (.slice A (s.size % 64) c) s.size) ∧ s.size % 64 ≤ c ∧ c ≤ maxLen ∧ Rd w' A (byteVals (s.toList.drop (64 * (s.size / 64)))) ∧ w.grownBy w' (some g) := by
  have hg0 := hB.lt
  have h0 := hB.cell_ 8 (.slice none 0 0) rfl
  have h1 := hB.cell_ 9 (.int .i64 0) rfl
  have f0 := hB.frozen 8
  have f1 := hB.frozen 9
  have ws : IntKind.i64.wrap (s.size : Int) = (s.size : Int) := by rw [IntKind.wrap_i64]; omega
  have hB1 : Bk (w.setCell ⟨g, 9, none⟩ (.int .i64 (s.size : Nat))) g 127 (hrow startW (.slice none 0 0) s.size) := by
    have := hB.set_ 9 (.int .i64 (s.size : Nat))
    unfold startW at this ⊢
    rw [hrow_n] at this
    exact this
  have HB := Lib.hid (And.intro hB1 (only_set w g 9 (.int .i64 (s.size : Nat))))
  clear hB hB1
  have HMIX : Hid (∀ (w' : World) (A : Option Addr) (c : Nat) (b : List UInt8) (a0 a1 a2 a3 a4 a5 a6 a7 b0 b1 b2 b3 b4 b5 b6 b7 : Nat), Wd8 [a0, a1, a2, a3, a4, a5, a6, a7] → b.length = 64 → Rd w' A (byteVals b) → mixW [a0, a1, a2, a3, a4, a5, a6, a7] b = [b0, b1, b2, b3, b4, b5, b6, b7] → Calls Try.prog 90 #[.agg #[.int .u32 (a0 : Nat), .int .u32 (a1 : Nat), .int .u32 (a2 : Nat), .int .u32 (a3 : Nat), .int .u32 (a4 : Nat), .int .u32 (a5 : Nat), .int .u32 (a6 : Nat), .int .u32 (a7 : Nat)], .slice A 64 c] w' fun e w'' => e = .returned (.agg #[.int .u32 (b0 : Nat), .int .u32 (b1 : Nat), .int .u32 (b2 : Nat), .int .u32 (b3 : Nat), .int .u32 (b4 : Nat), .int .u32 (b5 : Nat), .int .u32 (b6 : Nat), .int .u32 (b7 : Nat)]) ∧ Below w'.heap.size w' w'') := Lib.hid fun w' A c b a0 a1 a2 a3 a4 a5 a6 a7 b0 b1 b2 b3 b4 b5 b6 b7 h8 hb hr he => by
    have := mix_any a0 a1 a2 a3 a4 a5 a6 a7 b A c hb w' hr h8
    rw [he] at this
    exact this
  go_enter Try.func65, Try.ntmps65
  go_wp2_with (at_builtin; go_must (refine wpList_append_strN rfl (.tmp 19) (.tmp 20) 80 9 rfl 5 Try.underlying80 Try.underlying9 info_byteH rfl s rfl (by omega) ?_); intro A c w2 hc1 hc2 hr2 hf2 hb2; have hB2 := HB.out.1.below' hb2; have h8 := hB2.cell_ 8 (.slice none 0 0) rfl; have f8 := hB2.frozen 8; have hB3 := hB2.set_ 8 (.slice A s.size c); unfold startW at hB3; rw [hrow_left] at hB3; have hsz2 := hb2.size)
  have hof : Off g A (byteVals s.toList) := fun _ ad hA => by have := hf2 ad hA; simp [World.setCell] at this; omega
  have hon2 : w.grownBy (w2.setCell ⟨g, 8, none⟩ (.slice A s.size c)) (some g) :=
    only_trans (only_trans HB.out.2 ⟨hb2.os, hb2.tape, hb2.output, hb2.size, fun k hk _ => hb2.block k hk⟩) (only_set w2 g 8 _)
  have hr3 : Rd (w2.setCell ⟨g, 8, none⟩ (.slice A s.size c)) A (byteVals s.toList) := hr2.only (only_set w2 g 8 _) hof
  have HG := Lib.hid (And.intro hB3 (And.intro hon2 (And.intro hr3 hof)))
  have HW8 := Lib.hid start_ok
  clear h0 h1 f0 f1 hB2 h8 f8 hB3 hsz2 hof hon2 hr3 hr2 hf2 hb2
  generalize w2.setCell ⟨g, 8, none⟩ (.slice A s.size c) = wz at *
  go_loopw [24] (fun vi wr => ∃ (H : List Nat) (rest : List UInt8) (A : Option Addr) (c : Nat), rest.length ≤ c ∧ c ≤ maxLen ∧ Hid (Wd8 H) ∧ Hid (Rd wr A (byteVals rest)) ∧ Hid (Off g A (byteVals rest)) ∧ Hid (Bk wr g 127 (hrow H (.slice A rest.length c) s.size)) ∧ Hid (w.grownBy wr (some g)) ∧ Hid (blocksW (s.size / 64) startW s.toList = blocksW (rest.length / 64) H rest) ∧ Hid (s.toList.drop (64 * (s.size / 64)) = rest.drop (64 * (rest.length / 64)))) (fun _ wr => match wr.cell? ⟨g, 8, none⟩ with | some (.slice _ n _) => n | _ => 0)
  case atStart =>
    have e := size_toList s
    exact ⟨startW, s.toList, A, c, by rw [e]; exact hc1, hc2, HW8, Lib.hid HG.out.2.2.1, Lib.hid HG.out.2.2.2, Lib.hid (by rw [e]; exact HG.out.1), Lib.hid HG.out.2.1, Lib.hid (by rw [e]), Lib.hid (by rw [e])⟩
  case round =>
    clear HG hc1 hc2 HW8 HB
    obtain ⟨H, rest, A, c, hc1, hc2, HW, HR, HO, HBk, HON, HE, HD⟩ := hrel
    obtain ⟨a0, a1, a2, a3, a4, a5, a6, a7, rfl⟩ := eight HW.out.1
    obtain ⟨m, hm⟩ : ∃ m, rest.length = m := ⟨_, rfl⟩
    have HM := Lib.hid hm
    rw [hm] at HBk hc1
    have c8 := HBk.out.cell_ 8 (.slice A m c) rfl
    have HC8 := Lib.hid c8
    by_cases h64 : 64 ≤ m
    · have l64 : (64 : Int) ≤ (m : Int) := by omega
      have l64c : (64 : Int) ≤ (c : Int) := by omega
      obtain ⟨bb, oo, rfl, hcl⟩ := HR.out (by intro e; have := byteVals_length rest; rw [e, hm] at this; simp at this; omega)
      have HCL := Lib.hid hcl
      have HRT : Hid (Rd wr (some ⟨bb, oo, none⟩) (byteVals (rest.take 64))) := Lib.hid (by have := HR.out.take 64; unfold byteVals at this ⊢; rw [← List.map_take] at this; exact this)
      have hw8 := mix_ok HW.out (rest.take 64)
      obtain ⟨b0, b1, b2, b3, b4, b5, b6, b7, hmx⟩ := eight hw8.1
      rw [hmx] at hw8
      have HMX := Lib.hid hmx
      have HW2 := Lib.hid hw8
      clear hcl hmx hw8 hm
      have c0 := HBk.out.cell_ 0 (.int .u32 (a0 : Nat)) rfl
      have c1 := HBk.out.cell_ 1 (.int .u32 (a1 : Nat)) rfl
      have c2 := HBk.out.cell_ 2 (.int .u32 (a2 : Nat)) rfl
      have c3 := HBk.out.cell_ 3 (.int .u32 (a3 : Nat)) rfl
      have c4 := HBk.out.cell_ 4 (.int .u32 (a4 : Nat)) rfl
      have c5 := HBk.out.cell_ 5 (.int .u32 (a5 : Nat)) rfl
      have c6 := HBk.out.cell_ 6 (.int .u32 (a6 : Nat)) rfl
      have c7 := HBk.out.cell_ 7 (.int .u32 (a7 : Nat)) rfl
      go_wp2_with fail
      go_region_with (go_at_call 90; go_loud ((with_reducible refine (HMIX.out _ (some ⟨bb, oo, none⟩) c (rest.take 64) a0 a1 a2 a3 a4 a5 a6 a7 b0 b1 b2 b3 b4 b5 b6 b7 HW.out (by rw [List.length_take, HM.out]; omega) (Rd.drewH HRT.out) HMX.out).mono ?_); rintro e w3 ⟨rfl, hb3⟩; have hB3 : Bk w3 g 127 (hrow [a0, a1, a2, a3, a4, a5, a6, a7] (.slice (some ⟨bb, oo, none⟩) m c) s.size) := HBk.out.below' (below_of_drew hb3); have d0 := hB3.cell_ 0 (.int .u32 (a0 : Nat)) rfl; have z0 := hB3.frozen 0; have d1 := hB3.cell_ 1 (.int .u32 (a1 : Nat)) rfl; have z1 := hB3.frozen 1; have d2 := hB3.cell_ 2 (.int .u32 (a2 : Nat)) rfl; have z2 := hB3.frozen 2; have d3 := hB3.cell_ 3 (.int .u32 (a3 : Nat)) rfl; have z3 := hB3.frozen 3; have d4 := hB3.cell_ 4 (.int .u32 (a4 : Nat)) rfl; have z4 := hB3.frozen 4; have d5 := hB3.cell_ 5 (.int .u32 (a5 : Nat)) rfl; have z5 := hB3.frozen 5; have d6 := hB3.cell_ 6 (.int .u32 (a6 : Nat)) rfl; have z6 := hB3.frozen 6; have d7 := hB3.cell_ 7 (.int .u32 (a7 : Nat)) rfl; have z7 := hB3.frozen 7))
      all_goals
        have hb3' := below_of_drew hb3
        have hB4 := ((((((((hB3.set_ 0 (.int .u32 (b0 : Nat))).set_ 1 (.int .u32 (b1 : Nat))).set_ 2 (.int .u32 (b2 : Nat))).set_ 3 (.int .u32 (b3 : Nat))).set_ 4 (.int .u32 (b4 : Nat))).set_ 5 (.int .u32 (b5 : Nat))).set_ 6 (.int .u32 (b6 : Nat))).set_ 7 (.int .u32 (b7 : Nat)))
        rw [hrow_words] at hB4
        have hon3 : w.grownBy w3 (some g) := only_trans HON.out ⟨hb3'.os, hb3'.tape, hb3'.output, hb3'.size, fun k hk _ => hb3'.block k hk⟩
        have hon4 := (only_trans (only_trans (only_trans (only_trans (only_trans (only_trans (only_trans (only_trans hon3 (only_set w3 g 0 (.int .u32 (b0 : Nat)))) (only_set (w3.setCell ⟨g, 0, none⟩ (.int .u32 (b0 : Nat))) g 1 (.int .u32 (b1 : Nat)))) (only_set ((w3.setCell ⟨g, 0, none⟩ (.int .u32 (b0 : Nat))).setCell ⟨g, 1, none⟩ (.int .u32 (b1 : Nat))) g 2 (.int .u32 (b2 : Nat)))) (only_set (((w3.setCell ⟨g, 0, none⟩ (.int .u32 (b0 : Nat))).setCell ⟨g, 1, none⟩ (.int .u32 (b1 : Nat))).setCell ⟨g, 2, none⟩ (.int .u32 (b2 : Nat))) g 3 (.int .u32 (b3 : Nat)))) (only_set ((((w3.setCell ⟨g, 0, none⟩ (.int .u32 (b0 : Nat))).setCell ⟨g, 1, none⟩ (.int .u32 (b1 : Nat))).setCell ⟨g, 2, none⟩ (.int .u32 (b2 : Nat))).setCell ⟨g, 3, none⟩ (.int .u32 (b3 : Nat))) g 4 (.int .u32 (b4 : Nat)))) (only_set (((((w3.setCell ⟨g, 0, none⟩ (.int .u32 (b0 : Nat))).setCell ⟨g, 1, none⟩ (.int .u32 (b1 : Nat))).setCell ⟨g, 2, none⟩ (.int .u32 (b2 : Nat))).setCell ⟨g, 3, none⟩ (.int .u32 (b3 : Nat))).setCell ⟨g, 4, none⟩ (.int .u32 (b4 : Nat))) g 5 (.int .u32 (b5 : Nat)))) (only_set ((((((w3.setCell ⟨g, 0, none⟩ (.int .u32 (b0 : Nat))).setCell ⟨g, 1, none⟩ (.int .u32 (b1 : Nat))).setCell ⟨g, 2, none⟩ (.int .u32 (b2 : Nat))).setCell ⟨g, 3, none⟩ (.int .u32 (b3 : Nat))).setCell ⟨g, 4, none⟩ (.int .u32 (b4 : Nat))).setCell ⟨g, 5, none⟩ (.int .u32 (b5 : Nat))) g 6 (.int .u32 (b6 : Nat)))) (only_set (((((((w3.setCell ⟨g, 0, none⟩ (.int .u32 (b0 : Nat))).setCell ⟨g, 1, none⟩ (.int .u32 (b1 : Nat))).setCell ⟨g, 2, none⟩ (.int .u32 (b2 : Nat))).setCell ⟨g, 3, none⟩ (.int .u32 (b3 : Nat))).setCell ⟨g, 4, none⟩ (.int .u32 (b4 : Nat))).setCell ⟨g, 5, none⟩ (.int .u32 (b5 : Nat))).setCell ⟨g, 6, none⟩ (.int .u32 (b6 : Nat))) g 7 (.int .u32 (b7 : Nat))))
        have hr3 := HR.out.below hb3'
        have hr4 := ((((((((hr3.only (only_set w3 g 0 (.int .u32 (b0 : Nat))) HO.out).only (only_set (w3.setCell ⟨g, 0, none⟩ (.int .u32 (b0 : Nat))) g 1 (.int .u32 (b1 : Nat))) HO.out).only (only_set ((w3.setCell ⟨g, 0, none⟩ (.int .u32 (b0 : Nat))).setCell ⟨g, 1, none⟩ (.int .u32 (b1 : Nat))) g 2 (.int .u32 (b2 : Nat))) HO.out).only (only_set (((w3.setCell ⟨g, 0, none⟩ (.int .u32 (b0 : Nat))).setCell ⟨g, 1, none⟩ (.int .u32 (b1 : Nat))).setCell ⟨g, 2, none⟩ (.int .u32 (b2 : Nat))) g 3 (.int .u32 (b3 : Nat))) HO.out).only (only_set ((((w3.setCell ⟨g, 0, none⟩ (.int .u32 (b0 : Nat))).setCell ⟨g, 1, none⟩ (.int .u32 (b1 : Nat))).setCell ⟨g, 2, none⟩ (.int .u32 (b2 : Nat))).setCell ⟨g, 3, none⟩ (.int .u32 (b3 : Nat))) g 4 (.int .u32 (b4 : Nat))) HO.out).only (only_set (((((w3.setCell ⟨g, 0, none⟩ (.int .u32 (b0 : Nat))).setCell ⟨g, 1, none⟩ (.int .u32 (b1 : Nat))).setCell ⟨g, 2, none⟩ (.int .u32 (b2 : Nat))).setCell ⟨g, 3, none⟩ (.int .u32 (b3 : Nat))).setCell ⟨g, 4, none⟩ (.int .u32 (b4 : Nat))) g 5 (.int .u32 (b5 : Nat))) HO.out).only (only_set ((((((w3.setCell ⟨g, 0, none⟩ (.int .u32 (b0 : Nat))).setCell ⟨g, 1, none⟩ (.int .u32 (b1 : Nat))).setCell ⟨g, 2, none⟩ (.int .u32 (b2 : Nat))).setCell ⟨g, 3, none⟩ (.int .u32 (b3 : Nat))).setCell ⟨g, 4, none⟩ (.int .u32 (b4 : Nat))).setCell ⟨g, 5, none⟩ (.int .u32 (b5 : Nat))) g 6 (.int .u32 (b6 : Nat))) HO.out).only (only_set (((((((w3.setCell ⟨g, 0, none⟩ (.int .u32 (b0 : Nat))).setCell ⟨g, 1, none⟩ (.int .u32 (b1 : Nat))).setCell ⟨g, 2, none⟩ (.int .u32 (b2 : Nat))).setCell ⟨g, 3, none⟩ (.int .u32 (b3 : Nat))).setCell ⟨g, 4, none⟩ (.int .u32 (b4 : Nat))).setCell ⟨g, 5, none⟩ (.int .u32 (b5 : Nat))).setCell ⟨g, 6, none⟩ (.int .u32 (b6 : Nat))) g 7 (.int .u32 (b7 : Nat))) HO.out)
        clear d0 z0 d1 z1 d2 z2 d3 z3 d4 z4 d5 z5 d6 z6 d7 z7 hb3 hb3' hon3 hr3 hB3
        generalize ((((((((w3.setCell ⟨g, 0, none⟩ (.int .u32 (b0 : Nat))).setCell ⟨g, 1, none⟩ (.int .u32 (b1 : Nat))).setCell ⟨g, 2, none⟩ (.int .u32 (b2 : Nat))).setCell ⟨g, 3, none⟩ (.int .u32 (b3 : Nat))).setCell ⟨g, 4, none⟩ (.int .u32 (b4 : Nat))).setCell ⟨g, 5, none⟩ (.int .u32 (b5 : Nat))).setCell ⟨g, 6, none⟩ (.int .u32 (b6 : Nat))).setCell ⟨g, 7, none⟩ (.int .u32 (b7 : Nat))) = w4 at *
        have e8 := hB4.cell_ 8 (.slice (some ⟨bb, oo, none⟩) m c) rfl
        have z8 := hB4.frozen 8
        have HB4 := Lib.hid hB4
        have HON4 := Lib.hid hon4
        have HR4 := Lib.hid hr4
        clear hB4 hon4 hr4 c0 c1 c2 c3 c4 c5 c6 c7 c8 HON HR HCL HRT HMIX HBk
        have HRD : Hid (Rd w4 (some ⟨bb, oo + 64, none⟩) (byteVals (rest.drop 64))) := Lib.hid (by
          obtain ⟨bb', oo', he, hcl⟩ := HR4.out (by intro e; have := byteVals_length rest; rw [e, HM.out] at this; simp at this; omega)
          cases he
          exact Rd.dropH hcl 64)
        have hdl : (rest.drop 64).length = m - 64 := by rw [List.length_drop, HM.out]
        have HE2 : Hid (blocksW (s.size / 64) startW s.toList = blocksW ((rest.drop 64).length / 64) [b0, b1, b2, b3, b4, b5, b6, b7] (rest.drop 64)) := Lib.hid (by rw [HE.out, blocks_step _ _ (by rw [HM.out]; exact h64), HMX.out])
        have HD2 : Hid (s.toList.drop (64 * (s.size / 64)) = (rest.drop 64).drop (64 * ((rest.drop 64).length / 64))) := Lib.hid (by rw [HD.out, drop_step _ (by rw [HM.out]; exact h64)])
        have hB5 := fun v => HB4.out.set_ 8 v
        simp only [hrow_left] at hB5
        have HB5 := Lib.hid hB5
        have HDL := Lib.hid hdl
        clear hB5 hdl
        by_cases hkc : c = 64
        · subst hkc
          obtain rfl : m = 64 := by omega
          have hnil : rest.drop 64 = [] := List.eq_nil_of_length_eq_zero (by rw [HDL.out])
          have HNL := Lib.hid hnil
          clear hnil
          go_wp2_with fail
          go_round
          case rel => exact ⟨[b0, b1, b2, b3, b4, b5, b6, b7], rest.drop 64, some ⟨bb, oo, none⟩, 0, by rw [HDL.out]; omega, by omega, HW2, Lib.hid (by rw [HNL.out]; exact Rd.nil _ _), Lib.hid (by rw [HNL.out]; intro h; exact absurd rfl h), Lib.hid (by rw [HDL.out]; exact HB5.out _), Lib.hid (only_trans HON4.out (only_set w4 g 8 _)), HE2, HD2⟩
          case measure =>
            rw [(HB5.out (.slice (some ⟨bb, oo, none⟩) 0 0)).cell_ 8 (.slice (some ⟨bb, oo, none⟩) 0 0) rfl]
            first | (rw [HC8.out]; simp) | simp
        · have hkc2 : ¬ ((64 : Int) = (c : Int)) := by omega
          have hkc3 : ¬ ((c : Int) = 64) := by omega
          have hof : Off g (some ⟨bb, oo + 64, none⟩) (byteVals (rest.drop 64)) := fun h ad hA => by
            have h1 := HO.out (by intro e; have := byteVals_length rest; rw [e, HM.out] at this; simp at this; omega) _ rfl
            cases hA
            exact h1
          have HOF := Lib.hid hof
          clear hof
          go_wp2_with fail
          go_round
          case rel => exact ⟨[b0, b1, b2, b3, b4, b5, b6, b7], rest.drop 64, some ⟨bb, oo + 64, none⟩, c - 64, by rw [HDL.out]; omega, by omega, HW2, Lib.hid (HRD.out.only (only_set w4 g 8 _) HOF.out), HOF, Lib.hid (by rw [HDL.out]; exact HB5.out _), Lib.hid (only_trans HON4.out (only_set w4 g 8 _)), HE2, HD2⟩
          case measure =>
            rw [(HB5.out (.slice (some ⟨bb, oo + 64, none⟩) (m - 64) (c - 64))).cell_ 8 (.slice (some ⟨bb, oo + 64, none⟩) (m - 64) (c - 64)) rfl, HC8.out]
            show m - 64 < m
            omega
    · have l64 : (m : Int) < 64 := by omega
      have hE : blocksW (s.size / 64) startW s.toList = [a0, a1, a2, a3, a4, a5, a6, a7] := by rw [HE.out, HM.out, show m / 64 = 0 by omega]; rfl
      have hD : s.toList.drop (64 * (s.size / 64)) = rest := by rw [HD.out, HM.out, show m / 64 = 0 by omega]; rfl
      have hmm : s.size % 64 = m := by
        have := congrArg List.length hD
        rw [List.length_drop, size_toList, HM.out] at this
        omega
      have HFIN := Lib.hid (And.intro hE (And.intro hD hmm))
      clear hE hD hmm hm HMIX
      go_wp2_with (at_builtin; go_must (refine wpList_append_srcN rfl (.const (.slice none 0 0)) (.tmp 55) 80 rfl 5 el_byteH rfl A m c rest HR.out HM.out rfl (by omega) ?_); intro A5 c5 w5 hc5 hd5 hr5 hf5 hown5 hb5; have hB5 : Bk w5 g 127 (hrow [a0, a1, a2, a3, a4, a5, a6, a7] (.slice A m c) s.size) := HBk.out.below' hb5; have e8 := hB5.cell_ 8 (.slice A m c) rfl; have z8 := hB5.frozen 8)
      rw [HFIN.out.1, HFIN.out.2.1, HFIN.out.2.2]
      refine bodyPost_end (results_none rfl _ _ _) rfl ⟨rfl, A5, c5, ?_, hc5, hd5, ?_, ?_⟩
      · have := hB5.set_ 8 (.slice A5 m c5)
        rw [hrow_left] at this
        exact this
      · refine hr5.only (only_set w5 g 8 _) fun _ ad hA => ?_
        have h1 := hf5 ad hA
        have h2 := HBk.out.lt
        omega
      · exact only_trans (only_trans HON.out ⟨hb5.os, hb5.tape, hb5.output, hb5.size, fun k hk _ => hb5.block k hk⟩) (only_set w5 g 8 _)
end Go.Proofs.Ytnhbkfefpkocaaa
