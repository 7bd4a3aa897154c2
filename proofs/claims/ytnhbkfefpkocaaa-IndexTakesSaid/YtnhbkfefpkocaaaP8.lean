/-
  sha: New, Write. sha: the sum of what was written. sha: the sum of one text. The reference's sha: rotr; the plain words in 64 bits; the tables; rows of words as ints.
-/
import Derived.Test.YtnhbkfefpkocaaaShD
import Derived.Lib.AppendStr
namespace Go.Proofs.Ytnhbkfefpkocaaa
open Go.RowKit Go.Lib

theorem el_byteH : El Try.prog 80 5 1 1 := El.mk_ (z := .int .u8 0) Try.underlying80 (by kernel_rfl) (by decide) (by rfl)
theorem info_byteH : (Try.prog.info? 5).map (fun i => (i.zero, i.size, i.bytes)) = some (some (.int .u8 0), 1, 1) := by kernel_rfl
theorem strCells_valsH (s : ByteArray) : strCells s = byteVals s.toList := by
  rw [ByteArray.toList_eq]; rfl
theorem one_of_bytesH (l : List UInt8) : ∀ u ∈ byteVals l, u.oneCell' = true := fun u hu => by
  unfold byteVals at hu
  obtain ⟨x, _, rfl⟩ := List.mem_map.1 hu
  rfl
/-- 'append([]byte(nil), s...)', s a string. -/
theorem wpList_append_strN {P : Program} {ops : Array Oper} {rest : List Oper} {o : Oper} {a : Act} {w : World} {Q : Exit → Act → World → Prop} (hgd : o.guard = none) (sl x : Operand) (t u : TypeId)
    (ho : o.op = .call { callee := .builtin .append, args := #[sl, x], argTypes := #[t, u] })
    (e : TypeId) (ht : P.underlying t = some (.slice e)) (hu : P.underlying u = some .string) (hz : (P.info? e).map (fun i => (i.zero, i.size, i.bytes)) = some (some (.int .u8 0), 1, 1))
    (hs : a.eval sl = .slice none 0 0) (s : ByteArray) (hx : a.eval x = .string s) (hbytes : s.size ≤ 1000000000000)
    (h : ∀ A c w', s.size ≤ c → c ≤ maxLen → Rd w' A (byteVals s.toList) → (∀ ad, A = some ad → w.heap.size ≤ ad.block) → Below w.heap.size w w' → wpList P ops Q rest (a.put o.dst (.slice A s.size c)) w') : wpList P ops Q (o :: rest) a w := by
  obtain ⟨i, hi, z0, z1, z2⟩ := info_parts hz
  refine wpList_append_own_string w hgd sl x t u ho w.heap.size e i ht hu hi z0 z1 z2 (.slice none 0 0) 0 [] hs (World.ownsRow_nil _ _ _ _) s hx (by unfold maxLen; omega) (by omega) (Nat.le_refl _) ?_
  intro v' w' h2 h3 _
  rw [Nat.zero_add, List.nil_append, strCells_valsH] at h2
  have hb : Below w.heap.size w w' := ⟨h3.os, h3.tape, h3.output, h3.size, fun k hk => h3.block k hk (by simp [Value.ownBlock])⟩
  obtain ⟨A, c, hv, h4, h5, h6, h7, _⟩ := RetS.own h2 hb (Nat.le_refl _)
  obtain rfl : v' = .slice A s.size c := by injection hv
  exact h A c w' h4 h5 h6 h7 hb
/-- 'append([]byte(nil), b...)', b a slice. -/
theorem wpList_append_srcN {P : Program} {ops : Array Oper} {rest : List Oper} {o : Oper} {a : Act} {w : World} {Q : Exit → Act → World → Prop} (hgd : o.guard = none) (sl x : Operand) (t : TypeId)
    (ho : o.op = .call { callee := .builtin .append, args := #[sl, x], argTypes := #[t, t] })
    (e : TypeId) (hel : El P t e 1 1)
    (hs : a.eval sl = .slice none 0 0) (A0 : Option Addr) (m c0 : Nat) (l : List UInt8) (hr : Rd w A0 (byteVals l)) (hl : l.length = m) (hx : a.eval x = .slice A0 m c0) (hbytes : m ≤ 1000000000000)
    (h : ∀ A c w', m ≤ c → c ≤ maxLen → Rd w' A (byteVals l) → (∀ ad, A = some ad → w.heap.size ≤ ad.block) → w'.ownsRow w.heap.size e 1 (.slice A m c) m (byteVals l) → Below w.heap.size w w' → wpList P ops Q rest (a.put o.dst (.slice A m c)) w') : wpList P ops Q (o :: rest) a w := by
  refine wpList_append_src w hgd sl x t ho w.heap.size e 1 1 hel (.slice none 0 0) 0 [] (World.ownsRow_nil _ _ _ _) hs A0 m c0 (byteVals l) hr (by rw [byteVals_length, hl, Nat.mul_one]) hx (one_of_bytesH l) (by unfold maxLen; omega) (by omega) (Nat.le_refl _) ?_
  intro v' w' h2 hb
  rw [Nat.zero_add, List.nil_append] at h2
  obtain ⟨A, c, hv, h4, h5, h6, h7, _⟩ := RetS.own h2 hb (Nat.le_refl _)
  obtain rfl : v' = .slice A m c := by injection hv
  exact h A c w' h4 h5 h6 h7 h2 hb

/-- A text being summed: its cells. -/
def hrow (H : List Nat) (v : Value) (n : Nat) : Array Value := ((H.map fun k => Value.int .u32 (k : Nat)) ++ [v, .int .i64 (n : Nat)]).toArray
set_option maxRecDepth 20000 in
theorem shaNew_any (w : World) : Calls Try.prog 64 #[] w fun e w' => e = .returned (.pointer (some ⟨w.heap.size, 0, none⟩)) ∧ w' = w.alloc (.cells (hrow startW (.slice none 0 0) 0) 127) := by
  go_enter Try.func64, Try.ntmps64
  go_wp2_with fail
  go_ret
  exact ⟨rfl, rfl⟩
theorem Bk.cell_ {w : World} {g : Nat} {t : TypeId} {cs : Array Value} (h : Bk w g t cs) (i : Nat) (v : Value) (hv : cs[i]? = some v) : w.cell? ⟨g, i, none⟩ = some v := (h.cell i).trans hv
theorem blocks_step (H : List Nat) (rest : List UInt8) (h : 64 ≤ rest.length) : blocksW (rest.length / 64) H rest = blocksW ((rest.drop 64).length / 64) (mixW H (rest.take 64)) (rest.drop 64) := by
  rw [List.length_drop, show rest.length / 64 = (rest.length - 64) / 64 + 1 by omega]
  rfl
theorem drop_step (rest : List UInt8) (h : 64 ≤ rest.length) : rest.drop (64 * (rest.length / 64)) = (rest.drop 64).drop (64 * ((rest.drop 64).length / 64)) := by
  rw [List.length_drop, List.drop_drop]
  congr 1
  omega
theorem Rd.dropH {w : World} {b o : Nat} {l : List UInt8} (h : ∀ j u, (byteVals l)[j]? = some u → w.cell? ⟨b, o + j, none⟩ = some u) (k : Nat) : Rd w (some ⟨b, o + k, none⟩) (byteVals (l.drop k)) := fun _ =>
  ⟨b, o + k, rfl, fun j u hj => by
    rw [Nat.add_assoc]
    refine h (k + j) u ?_
    unfold byteVals at hj ⊢
    rw [List.map_drop, List.getElem?_drop] at hj
    exact hj⟩
theorem Rd.drewH {w : World} {A : Option Addr} {xs : List Value} (h : Rd w A xs) : Rd w.drew A xs := h.keep fun _ _ _ h => h
theorem mix_ok {H : List Nat} (h : Wd8 H) (b : List UInt8) : Wd8 (mixW H b) := by
  unfold mixW
  exact zip8_ok h.1 (rnds_ok _ _ _ h).1
theorem blocks_ok : ∀ (n : Nat) (H : List Nat) (b : List UInt8), Wd8 H → Wd8 (blocksW n H b)
  | 0, _, _, h => h
  | n + 1, H, b, h => blocks_ok n (mixW H (b.take 64)) (b.drop 64) (mix_ok h _)
theorem start_ok : Wd8 startW := by unfold Wd8; decide
theorem hrow_n (a0 a1 a2 a3 a4 a5 a6 a7 : Nat) (v : Value) (n m : Nat) : (hrow [a0, a1, a2, a3, a4, a5, a6, a7] v n).setIfInBounds 9 (.int .i64 (m : Nat)) = hrow [a0, a1, a2, a3, a4, a5, a6, a7] v m := by simp [hrow]
theorem hrow_left (a0 a1 a2 a3 a4 a5 a6 a7 : Nat) (v u : Value) (n : Nat) : (hrow [a0, a1, a2, a3, a4, a5, a6, a7] v n).setIfInBounds 8 u = hrow [a0, a1, a2, a3, a4, a5, a6, a7] u n := by simp [hrow]
theorem hrow_words (a0 a1 a2 a3 a4 a5 a6 a7 b0 b1 b2 b3 b4 b5 b6 b7 : Nat) (v : Value) (n : Nat) : (((((((((hrow [a0, a1, a2, a3, a4, a5, a6, a7] v n).setIfInBounds 0 (.int .u32 (b0 : Nat))).setIfInBounds 1 (.int .u32 (b1 : Nat))).setIfInBounds 2 (.int .u32 (b2 : Nat))).setIfInBounds 3 (.int .u32 (b3 : Nat))).setIfInBounds 4 (.int .u32 (b4 : Nat))).setIfInBounds 5 (.int .u32 (b5 : Nat))).setIfInBounds 6 (.int .u32 (b6 : Nat))).setIfInBounds 7 (.int .u32 (b7 : Nat))) = hrow [b0, b1, b2, b3, b4, b5, b6, b7] v n := by simp [hrow]
set_option maxRecDepth 20000 in
set_option maxHeartbeats 4000000 in
theorem write_any (s : ByteArray) (g : Nat) (w : World) (hs : s.size ≤ 1000000000) (hB : Bk w g 127 (hrow startW (.slice none 0 0) 0)) :
    Calls Try.prog 65 #[.pointer (some ⟨g, 0, none⟩), .string s] w fun e w' => e = .returned (.tuple #[]) ∧ ∃ A c, Bk w' g 127 (hrow (blocksW (s.size / 64) startW s.toList) (.slice A (s.size % 64) c) s.size) ∧ s.size % 64 ≤ c ∧ c ≤ maxLen ∧ Rd w' A (byteVals (s.toList.drop (64 * (s.size / 64)))) ∧ w.grownBy w' (some g) := by
  have hg0 := hB.lt
  have h0 := hB.cell_ 8 (.slice none 0 0) rfl
  have h1 := hB.cell_ 9 (.int .i64 0) rfl
  have f0 := hB.frozen 8
  have f1 := hB.frozen 9
  have ws : IntKind.i64.wrap (s.size : Int) = (s.size : Int) := by rw [IntKind.wrap_i64]; omega
  have hB1 : Bk (w.setCell ⟨g, 9, none⟩ (.int .i64 (s.size : Nat))) g 127 (hrow startW (.slice none 0 0) s.size) := by
    have := hB.set_ 9 (.int .i64 (s.size : Nat))
    unfold startW at this ⊢
    rw [hrow_n] at this
    exact this
  have HB := Lib.hid (And.intro hB1 (only_set w g 9 (.int .i64 (s.size : Nat))))
  clear hB hB1
  have HMIX : Hid (∀ (w' : World) (A : Option Addr) (c : Nat) (b : List UInt8) (a0 a1 a2 a3 a4 a5 a6 a7 b0 b1 b2 b3 b4 b5 b6 b7 : Nat), Wd8 [a0, a1, a2, a3, a4, a5, a6, a7] → b.length = 64 → Rd w' A (byteVals b) → mixW [a0, a1, a2, a3, a4, a5, a6, a7] b = [b0, b1, b2, b3, b4, b5, b6, b7] → Calls Try.prog 90 #[.agg #[.int .u32 (a0 : Nat), .int .u32 (a1 : Nat), .int .u32 (a2 : Nat), .int .u32 (a3 : Nat), .int .u32 (a4 : Nat), .int .u32 (a5 : Nat), .int .u32 (a6 : Nat), .int .u32 (a7 : Nat)], .slice A 64 c] w' fun e w'' => e = .returned (.agg #[.int .u32 (b0 : Nat), .int .u32 (b1 : Nat), .int .u32 (b2 : Nat), .int .u32 (b3 : Nat), .int .u32 (b4 : Nat), .int .u32 (b5 : Nat), .int .u32 (b6 : Nat), .int .u32 (b7 : Nat)]) ∧ Below w'.heap.size w' w'') := Lib.hid fun w' A c b a0 a1 a2 a3 a4 a5 a6 a7 b0 b1 b2 b3 b4 b5 b6 b7 h8 hb hr he => by
    have := mix_any a0 a1 a2 a3 a4 a5 a6 a7 b A c hb w' hr h8
    rw [he] at this
    exact this
  go_enter Try.func65, Try.ntmps65
  go_wp2_with (at_builtin; go_must (refine wpList_append_strN rfl (.tmp 19) (.tmp 20) 80 9 rfl 5 Try.underlying80 Try.underlying9 info_byteH rfl s rfl (by omega) ?_); intro A c w2 hc1 hc2 hr2 hf2 hb2; have hB2 := HB.out.1.below' hb2; have h8 := hB2.cell_ 8 (.slice none 0 0) rfl; have f8 := hB2.frozen 8; have hB3 := hB2.set_ 8 (.slice A s.size c); unfold startW at hB3; rw [hrow_left] at hB3; have hsz2 := hb2.size)
  have hof : Off g A (byteVals s.toList) := fun _ ad hA => by have := hf2 ad hA; simp [World.setCell] at this; omega
  have hon2 : w.grownBy (w2.setCell ⟨g, 8, none⟩ (.slice A s.size c)) (some g) :=
    only_trans (only_trans HB.out.2 ⟨hb2.os, hb2.tape, hb2.output, hb2.size, fun k hk _ => hb2.block k hk⟩) (only_set w2 g 8 _)
  have hr3 : Rd (w2.setCell ⟨g, 8, none⟩ (.slice A s.size c)) A (byteVals s.toList) := hr2.only (only_set w2 g 8 _) hof
  have HG := Lib.hid (And.intro hB3 (And.intro hon2 (And.intro hr3 hof)))
  have HW8 := Lib.hid start_ok
  clear h0 h1 f0 f1 hB2 h8 f8 hB3 hsz2 hof hon2 hr3 hr2 hf2 hb2
  generalize w2.setCell ⟨g, 8, none⟩ (.slice A s.size c) = wz at *
  go_loopw [24] (fun vi wr => ∃ (H : List Nat) (rest : List UInt8) (A : Option Addr) (c : Nat), rest.length ≤ c ∧ c ≤ maxLen ∧ Hid (Wd8 H) ∧ Hid (Rd wr A (byteVals rest)) ∧ Hid (Off g A (byteVals rest)) ∧ Hid (Bk wr g 127 (hrow H (.slice A rest.length c) s.size)) ∧ Hid (w.grownBy wr (some g)) ∧ Hid (blocksW (s.size / 64) startW s.toList = blocksW (rest.length / 64) H rest) ∧ Hid (s.toList.drop (64 * (s.size / 64)) = rest.drop (64 * (rest.length / 64)))) (fun _ wr => match wr.cell? ⟨g, 8, none⟩ with | some (.slice _ n _) => n | _ => 0)
  case atStart =>
    have e := size_toList s
    exact ⟨startW, s.toList, A, c, by rw [e]; exact hc1, hc2, HW8, Lib.hid HG.out.2.2.1, Lib.hid HG.out.2.2.2, Lib.hid (by rw [e]; exact HG.out.1), Lib.hid HG.out.2.1, Lib.hid (by rw [e]), Lib.hid (by rw [e])⟩
  case round =>
    clear HG hc1 hc2 HW8 HB
    obtain ⟨H, rest, A, c, hc1, hc2, HW, HR, HO, HBk, HON, HE, HD⟩ := hrel
    obtain ⟨a0, a1, a2, a3, a4, a5, a6, a7, rfl⟩ := eight HW.out.1
    obtain ⟨m, hm⟩ : ∃ m, rest.length = m := ⟨_, rfl⟩
    have HM := Lib.hid hm
    rw [hm] at HBk hc1
    have c8 := HBk.out.cell_ 8 (.slice A m c) rfl
    have HC8 := Lib.hid c8
    by_cases h64 : 64 ≤ m
    · have l64 : (64 : Int) ≤ (m : Int) := by omega
      have l64c : (64 : Int) ≤ (c : Int) := by omega
      obtain ⟨bb, oo, rfl, hcl⟩ := HR.out (by intro e; have := byteVals_length rest; rw [e, hm] at this; simp at this; omega)
      have HCL := Lib.hid hcl
      have HRT : Hid (Rd wr (some ⟨bb, oo, none⟩) (byteVals (rest.take 64))) := Lib.hid (by have := HR.out.take 64; unfold byteVals at this ⊢; rw [← List.map_take] at this; exact this)
      have hw8 := mix_ok HW.out (rest.take 64)
      obtain ⟨b0, b1, b2, b3, b4, b5, b6, b7, hmx⟩ := eight hw8.1
      rw [hmx] at hw8
      have HMX := Lib.hid hmx
      have HW2 := Lib.hid hw8
      clear hcl hmx hw8 hm
      have c0 := HBk.out.cell_ 0 (.int .u32 (a0 : Nat)) rfl
      have c1 := HBk.out.cell_ 1 (.int .u32 (a1 : Nat)) rfl
      have c2 := HBk.out.cell_ 2 (.int .u32 (a2 : Nat)) rfl
      have c3 := HBk.out.cell_ 3 (.int .u32 (a3 : Nat)) rfl
      have c4 := HBk.out.cell_ 4 (.int .u32 (a4 : Nat)) rfl
      have c5 := HBk.out.cell_ 5 (.int .u32 (a5 : Nat)) rfl
      have c6 := HBk.out.cell_ 6 (.int .u32 (a6 : Nat)) rfl
      have c7 := HBk.out.cell_ 7 (.int .u32 (a7 : Nat)) rfl
      go_wp2_with fail
      go_region_with (go_at_call 90; go_loud ((with_reducible refine (HMIX.out _ (some ⟨bb, oo, none⟩) c (rest.take 64) a0 a1 a2 a3 a4 a5 a6 a7 b0 b1 b2 b3 b4 b5 b6 b7 HW.out (by rw [List.length_take, HM.out]; omega) (Rd.drewH HRT.out) HMX.out).mono ?_); rintro e w3 ⟨rfl, hb3⟩; have hB3 : Bk w3 g 127 (hrow [a0, a1, a2, a3, a4, a5, a6, a7] (.slice (some ⟨bb, oo, none⟩) m c) s.size) := HBk.out.below' (below_of_drew hb3); have d0 := hB3.cell_ 0 (.int .u32 (a0 : Nat)) rfl; have z0 := hB3.frozen 0; have d1 := hB3.cell_ 1 (.int .u32 (a1 : Nat)) rfl; have z1 := hB3.frozen 1; have d2 := hB3.cell_ 2 (.int .u32 (a2 : Nat)) rfl; have z2 := hB3.frozen 2; have d3 := hB3.cell_ 3 (.int .u32 (a3 : Nat)) rfl; have z3 := hB3.frozen 3; have d4 := hB3.cell_ 4 (.int .u32 (a4 : Nat)) rfl; have z4 := hB3.frozen 4; have d5 := hB3.cell_ 5 (.int .u32 (a5 : Nat)) rfl; have z5 := hB3.frozen 5; have d6 := hB3.cell_ 6 (.int .u32 (a6 : Nat)) rfl; have z6 := hB3.frozen 6; have d7 := hB3.cell_ 7 (.int .u32 (a7 : Nat)) rfl; have z7 := hB3.frozen 7))
      all_goals
        have hb3' := below_of_drew hb3
        have hB4 := ((((((((hB3.set_ 0 (.int .u32 (b0 : Nat))).set_ 1 (.int .u32 (b1 : Nat))).set_ 2 (.int .u32 (b2 : Nat))).set_ 3 (.int .u32 (b3 : Nat))).set_ 4 (.int .u32 (b4 : Nat))).set_ 5 (.int .u32 (b5 : Nat))).set_ 6 (.int .u32 (b6 : Nat))).set_ 7 (.int .u32 (b7 : Nat)))
        rw [hrow_words] at hB4
        have hon3 : w.grownBy w3 (some g) := only_trans HON.out ⟨hb3'.os, hb3'.tape, hb3'.output, hb3'.size, fun k hk _ => hb3'.block k hk⟩
        have hon4 := (only_trans (only_trans (only_trans (only_trans (only_trans (only_trans (only_trans (only_trans hon3 (only_set w3 g 0 (.int .u32 (b0 : Nat)))) (only_set (w3.setCell ⟨g, 0, none⟩ (.int .u32 (b0 : Nat))) g 1 (.int .u32 (b1 : Nat)))) (only_set ((w3.setCell ⟨g, 0, none⟩ (.int .u32 (b0 : Nat))).setCell ⟨g, 1, none⟩ (.int .u32 (b1 : Nat))) g 2 (.int .u32 (b2 : Nat)))) (only_set (((w3.setCell ⟨g, 0, none⟩ (.int .u32 (b0 : Nat))).setCell ⟨g, 1, none⟩ (.int .u32 (b1 : Nat))).setCell ⟨g, 2, none⟩ (.int .u32 (b2 : Nat))) g 3 (.int .u32 (b3 : Nat)))) (only_set ((((w3.setCell ⟨g, 0, none⟩ (.int .u32 (b0 : Nat))).setCell ⟨g, 1, none⟩ (.int .u32 (b1 : Nat))).setCell ⟨g, 2, none⟩ (.int .u32 (b2 : Nat))).setCell ⟨g, 3, none⟩ (.int .u32 (b3 : Nat))) g 4 (.int .u32 (b4 : Nat)))) (only_set (((((w3.setCell ⟨g, 0, none⟩ (.int .u32 (b0 : Nat))).setCell ⟨g, 1, none⟩ (.int .u32 (b1 : Nat))).setCell ⟨g, 2, none⟩ (.int .u32 (b2 : Nat))).setCell ⟨g, 3, none⟩ (.int .u32 (b3 : Nat))).setCell ⟨g, 4, none⟩ (.int .u32 (b4 : Nat))) g 5 (.int .u32 (b5 : Nat)))) (only_set ((((((w3.setCell ⟨g, 0, none⟩ (.int .u32 (b0 : Nat))).setCell ⟨g, 1, none⟩ (.int .u32 (b1 : Nat))).setCell ⟨g, 2, none⟩ (.int .u32 (b2 : Nat))).setCell ⟨g, 3, none⟩ (.int .u32 (b3 : Nat))).setCell ⟨g, 4, none⟩ (.int .u32 (b4 : Nat))).setCell ⟨g, 5, none⟩ (.int .u32 (b5 : Nat))) g 6 (.int .u32 (b6 : Nat)))) (only_set (((((((w3.setCell ⟨g, 0, none⟩ (.int .u32 (b0 : Nat))).setCell ⟨g, 1, none⟩ (.int .u32 (b1 : Nat))).setCell ⟨g, 2, none⟩ (.int .u32 (b2 : Nat))).setCell ⟨g, 3, none⟩ (.int .u32 (b3 : Nat))).setCell ⟨g, 4, none⟩ (.int .u32 (b4 : Nat))).setCell ⟨g, 5, none⟩ (.int .u32 (b5 : Nat))).setCell ⟨g, 6, none⟩ (.int .u32 (b6 : Nat))) g 7 (.int .u32 (b7 : Nat))))
        have hr3 := HR.out.below hb3'
        have hr4 := ((((((((hr3.only (only_set w3 g 0 (.int .u32 (b0 : Nat))) HO.out).only (only_set (w3.setCell ⟨g, 0, none⟩ (.int .u32 (b0 : Nat))) g 1 (.int .u32 (b1 : Nat))) HO.out).only (only_set ((w3.setCell ⟨g, 0, none⟩ (.int .u32 (b0 : Nat))).setCell ⟨g, 1, none⟩ (.int .u32 (b1 : Nat))) g 2 (.int .u32 (b2 : Nat))) HO.out).only (only_set (((w3.setCell ⟨g, 0, none⟩ (.int .u32 (b0 : Nat))).setCell ⟨g, 1, none⟩ (.int .u32 (b1 : Nat))).setCell ⟨g, 2, none⟩ (.int .u32 (b2 : Nat))) g 3 (.int .u32 (b3 : Nat))) HO.out).only (only_set ((((w3.setCell ⟨g, 0, none⟩ (.int .u32 (b0 : Nat))).setCell ⟨g, 1, none⟩ (.int .u32 (b1 : Nat))).setCell ⟨g, 2, none⟩ (.int .u32 (b2 : Nat))).setCell ⟨g, 3, none⟩ (.int .u32 (b3 : Nat))) g 4 (.int .u32 (b4 : Nat))) HO.out).only (only_set (((((w3.setCell ⟨g, 0, none⟩ (.int .u32 (b0 : Nat))).setCell ⟨g, 1, none⟩ (.int .u32 (b1 : Nat))).setCell ⟨g, 2, none⟩ (.int .u32 (b2 : Nat))).setCell ⟨g, 3, none⟩ (.int .u32 (b3 : Nat))).setCell ⟨g, 4, none⟩ (.int .u32 (b4 : Nat))) g 5 (.int .u32 (b5 : Nat))) HO.out).only (only_set ((((((w3.setCell ⟨g, 0, none⟩ (.int .u32 (b0 : Nat))).setCell ⟨g, 1, none⟩ (.int .u32 (b1 : Nat))).setCell ⟨g, 2, none⟩ (.int .u32 (b2 : Nat))).setCell ⟨g, 3, none⟩ (.int .u32 (b3 : Nat))).setCell ⟨g, 4, none⟩ (.int .u32 (b4 : Nat))).setCell ⟨g, 5, none⟩ (.int .u32 (b5 : Nat))) g 6 (.int .u32 (b6 : Nat))) HO.out).only (only_set (((((((w3.setCell ⟨g, 0, none⟩ (.int .u32 (b0 : Nat))).setCell ⟨g, 1, none⟩ (.int .u32 (b1 : Nat))).setCell ⟨g, 2, none⟩ (.int .u32 (b2 : Nat))).setCell ⟨g, 3, none⟩ (.int .u32 (b3 : Nat))).setCell ⟨g, 4, none⟩ (.int .u32 (b4 : Nat))).setCell ⟨g, 5, none⟩ (.int .u32 (b5 : Nat))).setCell ⟨g, 6, none⟩ (.int .u32 (b6 : Nat))) g 7 (.int .u32 (b7 : Nat))) HO.out)
        clear d0 z0 d1 z1 d2 z2 d3 z3 d4 z4 d5 z5 d6 z6 d7 z7 hb3 hb3' hon3 hr3 hB3
        generalize ((((((((w3.setCell ⟨g, 0, none⟩ (.int .u32 (b0 : Nat))).setCell ⟨g, 1, none⟩ (.int .u32 (b1 : Nat))).setCell ⟨g, 2, none⟩ (.int .u32 (b2 : Nat))).setCell ⟨g, 3, none⟩ (.int .u32 (b3 : Nat))).setCell ⟨g, 4, none⟩ (.int .u32 (b4 : Nat))).setCell ⟨g, 5, none⟩ (.int .u32 (b5 : Nat))).setCell ⟨g, 6, none⟩ (.int .u32 (b6 : Nat))).setCell ⟨g, 7, none⟩ (.int .u32 (b7 : Nat))) = w4 at *
        have e8 := hB4.cell_ 8 (.slice (some ⟨bb, oo, none⟩) m c) rfl
        have z8 := hB4.frozen 8
        have HB4 := Lib.hid hB4
        have HON4 := Lib.hid hon4
        have HR4 := Lib.hid hr4
        clear hB4 hon4 hr4 c0 c1 c2 c3 c4 c5 c6 c7 c8 HON HR HCL HRT HMIX HBk
        have HRD : Hid (Rd w4 (some ⟨bb, oo + 64, none⟩) (byteVals (rest.drop 64))) := Lib.hid (by
          obtain ⟨bb', oo', he, hcl⟩ := HR4.out (by intro e; have := byteVals_length rest; rw [e, HM.out] at this; simp at this; omega)
          cases he
          exact Rd.dropH hcl 64)
        have hdl : (rest.drop 64).length = m - 64 := by rw [List.length_drop, HM.out]
        have HE2 : Hid (blocksW (s.size / 64) startW s.toList = blocksW ((rest.drop 64).length / 64) [b0, b1, b2, b3, b4, b5, b6, b7] (rest.drop 64)) := Lib.hid (by rw [HE.out, blocks_step _ _ (by rw [HM.out]; exact h64), HMX.out])
        have HD2 : Hid (s.toList.drop (64 * (s.size / 64)) = (rest.drop 64).drop (64 * ((rest.drop 64).length / 64))) := Lib.hid (by rw [HD.out, drop_step _ (by rw [HM.out]; exact h64)])
        have hB5 := fun v => HB4.out.set_ 8 v
        simp only [hrow_left] at hB5
        have HB5 := Lib.hid hB5
        have HDL := Lib.hid hdl
        clear hB5 hdl
        by_cases hkc : c = 64
        · subst hkc
          obtain rfl : m = 64 := by omega
          have hnil : rest.drop 64 = [] := List.eq_nil_of_length_eq_zero (by rw [HDL.out])
          have HNL := Lib.hid hnil
          clear hnil
          go_wp2_with fail
          go_round
          case rel => exact ⟨[b0, b1, b2, b3, b4, b5, b6, b7], rest.drop 64, some ⟨bb, oo, none⟩, 0, by rw [HDL.out]; omega, by omega, HW2, Lib.hid (by rw [HNL.out]; exact Rd.nil _ _), Lib.hid (by rw [HNL.out]; intro h; exact absurd rfl h), Lib.hid (by rw [HDL.out]; exact HB5.out _), Lib.hid (only_trans HON4.out (only_set w4 g 8 _)), HE2, HD2⟩
          case measure =>
            rw [(HB5.out (.slice (some ⟨bb, oo, none⟩) 0 0)).cell_ 8 (.slice (some ⟨bb, oo, none⟩) 0 0) rfl]
            first | (rw [HC8.out]; simp) | simp
        · have hkc2 : ¬ ((64 : Int) = (c : Int)) := by omega
          have hkc3 : ¬ ((c : Int) = 64) := by omega
          have hof : Off g (some ⟨bb, oo + 64, none⟩) (byteVals (rest.drop 64)) := fun h ad hA => by
            have h1 := HO.out (by intro e; have := byteVals_length rest; rw [e, HM.out] at this; simp at this; omega) _ rfl
            cases hA
            exact h1
          have HOF := Lib.hid hof
          clear hof
          go_wp2_with fail
          go_round
          case rel => exact ⟨[b0, b1, b2, b3, b4, b5, b6, b7], rest.drop 64, some ⟨bb, oo + 64, none⟩, c - 64, by rw [HDL.out]; omega, by omega, HW2, Lib.hid (HRD.out.only (only_set w4 g 8 _) HOF.out), HOF, Lib.hid (by rw [HDL.out]; exact HB5.out _), Lib.hid (only_trans HON4.out (only_set w4 g 8 _)), HE2, HD2⟩
          case measure =>
            rw [(HB5.out (.slice (some ⟨bb, oo + 64, none⟩) (m - 64) (c - 64))).cell_ 8 (.slice (some ⟨bb, oo + 64, none⟩) (m - 64) (c - 64)) rfl, HC8.out]
            show m - 64 < m
            omega
    · have l64 : (m : Int) < 64 := by omega
      have hE : blocksW (s.size / 64) startW s.toList = [a0, a1, a2, a3, a4, a5, a6, a7] := by rw [HE.out, HM.out, show m / 64 = 0 by omega]; rfl
      have hD : s.toList.drop (64 * (s.size / 64)) = rest := by rw [HD.out, HM.out, show m / 64 = 0 by omega]; rfl
      have hmm : s.size % 64 = m := by
        have := congrArg List.length hD
        rw [List.length_drop, size_toList, HM.out] at this
        omega
      have HFIN := Lib.hid (And.intro hE (And.intro hD hmm))
      clear hE hD hmm hm HMIX
      go_wp2_with (at_builtin; go_must (refine wpList_append_srcN rfl (.const (.slice none 0 0)) (.tmp 55) 80 rfl 5 el_byteH rfl A m c rest HR.out HM.out rfl (by omega) ?_); intro A5 c5 w5 hc5 hd5 hr5 hf5 hown5 hb5; have hB5 : Bk w5 g 127 (hrow [a0, a1, a2, a3, a4, a5, a6, a7] (.slice A m c) s.size) := HBk.out.below' hb5; have e8 := hB5.cell_ 8 (.slice A m c) rfl; have z8 := hB5.frozen 8)
      rw [HFIN.out.1, HFIN.out.2.1, HFIN.out.2.2]
      refine bodyPost_end (results_none rfl _ _ _) rfl ⟨rfl, A5, c5, ?_, hc5, hd5, ?_, ?_⟩
      · have := hB5.set_ 8 (.slice A5 m c5)
        rw [hrow_left] at this
        exact this
      · refine hr5.only (only_set w5 g 8 _) fun _ ad hA => ?_
        have h1 := hf5 ad hA
        have h2 := HBk.out.lt
        omega
      · exact only_trans (only_trans HON.out ⟨hb5.os, hb5.tape, hb5.output, hb5.size, fun k hk _ => hb5.block k hk⟩) (only_set w5 g 8 _)
end Go.Proofs.Ytnhbkfefpkocaaa
namespace Go.Proofs.Ytnhbkfefpkocaaa
open Go.RowKit Go.Lib

def zerosW (n : Nat) : Nat := (119 - n % 64) % 64
/-- The length's eight bytes. -/
def lenW (n : Nat) : List UInt8 := bytes4 (n * 8 / 4294967296) ++ bytes4 (n * 8)
theorem lenW_len (n : Nat) : (lenW n).length = 8 := rfl
theorem padW_eq (n : Nat) : padW n = 128 :: (List.replicate (zerosW n) 0 ++ lenW n) := by simp [padW, zerosW, lenW]
theorem rep_snoc (k : Nat) : List.replicate (k + 1) (0 : UInt8) = List.replicate k 0 ++ [0] := by rw [List.replicate_succ']
theorem lenW_get (n i : Nat) (hn : n ≤ 1000000000) (hi : i < 8) : (((lenW n).getD i 0).toNat : Int) = ((n : Int) * 8 / 2 ^ (56 - 8 * i)) % 256 := by
  have h : i = 0 ∨ i = 1 ∨ i = 2 ∨ i = 3 ∨ i = 4 ∨ i = 5 ∨ i = 6 ∨ i = 7 := by omega
  rcases h with rfl | rfl | rfl | rfl | rfl | rfl | rfl | rfl <;> simp [lenW, bytes4, UInt8.toNat_ofNat'] <;> omega
theorem lenW_take (n i : Nat) (hi : i < 8) : (lenW n).take (i + 1) = (lenW n).take i ++ [(lenW n).getD i 0] := by
  rw [List.take_succ_eq_append_getElem (by rw [lenW_len]; exact hi), List.getD_eq_getElem?_getD, List.getElem?_eq_getElem (by rw [lenW_len]; exact hi)]
  rfl
theorem row8_words (a0 a1 a2 a3 a4 a5 a6 a7 b0 b1 b2 b3 b4 b5 b6 b7 : Nat) : (((((((((row8 [a0, a1, a2, a3, a4, a5, a6, a7]).setIfInBounds 0 (.int .u32 (b0 : Nat))).setIfInBounds 1 (.int .u32 (b1 : Nat))).setIfInBounds 2 (.int .u32 (b2 : Nat))).setIfInBounds 3 (.int .u32 (b3 : Nat))).setIfInBounds 4 (.int .u32 (b4 : Nat))).setIfInBounds 5 (.int .u32 (b5 : Nat))).setIfInBounds 6 (.int .u32 (b6 : Nat))).setIfInBounds 7 (.int .u32 (b7 : Nat))) = row8 [b0, b1, b2, b3, b4, b5, b6, b7] := by simp [row8]
theorem snocH {w : World} {v : Value} {n base : Nat} {e : TypeId} {l : List UInt8} (b : UInt8) (X : Int) (l' : List UInt8) (h : w.ownsRow base e 1 v n (byteVals l ++ (#[Value.int .u8 X] : Array Value).toList)) (hX : (b.toNat : Int) = X) (hl : l' = l ++ [b]) : w.ownsRow base e 1 v n (byteVals l') := by
  rw [hl, ← byteVals_snoc l b X hX]
  exact h
theorem wpList_append_rowN {P : Program} (w : World) {ops : Array Oper} {rest : List Oper} {o : Oper} {a : Act} {Q : Exit → Act → World → Prop} (hgd : o.guard = none) (s x : Operand) (t : TypeId)
    (ho : o.op = .call { callee := .builtin .append, args := #[s, x], argTypes := #[t, t] })
    (base : Nat) (e : TypeId) (size bytes : Nat) (hel : El P t e size bytes)
    (v : Value) (n : Nat) (xs : List Value) (hown : w.ownsRow base e size v n xs) (hs : a.eval s = v) (C : Array Value) (m : Nat)
    (hx : a.eval x = .slice (some ⟨w.heap.size, 0, none⟩) m m) (hC : C.size = m * size) (h1 : ∀ u ∈ C.toList, u.oneCell' = true)
    (h63 : n + m ≤ maxLen) (hbytes : (n + m) * bytes ≤ 140737488355328) (hbase : base ≤ w.heap.size)
    (h : ∀ v' w', w'.ownsRow base e size v' (n + m) (xs ++ C.toList) → Below base w w' → wpList P ops Q rest (a.put o.dst v') w') : wpList P ops Q (o :: rest) a (w.alloc (.cells C e)) :=
  wpList_append_src (w.alloc (.cells C e)) hgd s x t ho base e size bytes hel v n xs (hown.alloc _) hs _ m m C.toList (Rd.new w e C) (by simpa using hC) hx h1 h63 hbytes (by simp; omega) fun v' w' h2 h3 => h v' w' h2 (((Below.refl base w).alloc hbase _).trans h3)
theorem vals4 (x : Nat) : byteVals (bytes4 x) = [.int .u8 ((x : Int) / 16777216 % 256), .int .u8 ((x : Int) / 65536 % 256), .int .u8 ((x : Int) / 256 % 256), .int .u8 ((x : Int) % 256)] := by
  simp [byteVals, bytes4, UInt8.toNat_ofNat']
theorem flat_step (H : List Nat) (i : Nat) (h : i < H.length) : byteVals ((H.take (i + 1)).flatMap bytes4) = byteVals ((H.take i).flatMap bytes4) ++ byteVals (bytes4 (H.getD i 0)) := by
  rw [List.take_succ_eq_append_getElem h, List.getD_eq_getElem?_getD, List.getElem?_eq_getElem h]
  unfold byteVals
  rw [List.flatMap_append, List.map_append]
  simp only [List.flatMap_cons, List.flatMap_nil, List.append_nil, Option.getD_some]
def vlen : Value → Nat
  | .slice _ n _ => n
  | _ => 0

set_option maxRecDepth 20000 in
set_option maxHeartbeats 4000000 in
theorem hsum_any (a0 a1 a2 a3 a4 a5 a6 a7 : Nat) (rest : List UInt8) (N r g : Nat) (A : Option Addr) (c : Nat) (w : World) (hN : N ≤ 1000000000) (hrN : N % 64 = r) (hlr : rest.length = r) (hH : Wd8 [a0, a1, a2, a3, a4, a5, a6, a7]) (hB : Bk w g 127 (hrow [a0, a1, a2, a3, a4, a5, a6, a7] (.slice A r c) N)) (hr : Rd w A (byteVals rest)) :
    Calls Try.prog 66 #[.pointer (some ⟨g, 0, none⟩)] w fun e w' => e = .returned (.string (ofL ((blocksW ((r + (padW N).length) / 64) [a0, a1, a2, a3, a4, a5, a6, a7] (rest ++ padW N)).flatMap bytes4))) ∧ Below w.heap.size w w' := by
  have c8 := hB.cell_ 8 (.slice A r c) rfl
  have HLR := Lib.hid hlr
  have HRN := Lib.hid hrN
  have HB := Lib.hid hB
  have HR := Lib.hid hr
  have HH := Lib.hid hH
  have hz : zerosW N ≤ 63 := by unfold zerosW; omega
  obtain ⟨Z, hZ⟩ : ∃ Z, zerosW N = Z := ⟨_, rfl⟩
  have hZ2 : (119 - r) % 64 = Z := by rw [← hZ, ← hrN]; rfl
  rw [hZ] at hz
  have HZ := Lib.hid (And.intro hZ hZ2)
  have hr64 : r < 64 := by omega
  clear hlr hB hr hH hZ hrN hZ2
  go_enter Try.func66, Try.ntmps66
  go_wp2_with (at_builtin; go_must (first | (refine wpList_append_srcN rfl (.const (.slice none 0 0)) (.tmp 14) 80 rfl 5 el_byteH rfl A r c rest HR.out HLR.out rfl (by omega) ?_) | (refine wpList_append_new _ rfl (.tmp 16) (.tmp 17) 80 rfl w.heap.size 5 1 1 el_byteH _ _ _ hown5 rfl _ rfl rfl (by intro u hu; simp at hu; subst hu; rfl) (by unfold maxLen; omega) (by omega) hb5.size ?_)); first | (intro A5 c5 w5 hc5 hd5 hr5 hf5 hown5 hb5) | (intro v2 w2 hown2 hb2))
  have hb2' := hb5.trans hb2
  rw [show byteVals rest ++ (#[Value.int .u8 128] : Array Value).toList = byteVals (rest ++ [128]) from byteVals_snoc rest 128 128 rfl] at hown2
  have HG := Lib.hid (And.intro hown2 hb2')
  clear hb5 hb2 hown5 hown2 hr5 hf5 hc5 hd5 hb2' c8
  go_loopw [3] (fun vi wr => ∃ k : Nat, k ≤ Z ∧ Hid (wr.ownsRow w.heap.size 5 1 vi (r + 1 + k) (byteVals (rest ++ 128 :: List.replicate k 0))) ∧ Hid (Below w.heap.size w wr)) (fun vi _ => 200 - vlen vi)
  case atStart => exact ⟨0, by omega, Lib.hid (by rw [Nat.add_zero]; exact HG.out.1), Lib.hid HG.out.2⟩
  case round =>
    clear HG
    obtain ⟨k, hk, HO, HBL⟩ := hrel
    obtain ⟨bg, bcap, bcur, rfl, hbg, hbk, hnc, hcm, htk⟩ := own_block HO.out (by omega)
    have hsz := hbk.lt
    by_cases hkz : k < Z
    · have hq : ¬ ((r : Int) + 1 + (k : Int)) % 64 = 56 := by have := HZ.out.2; omega
      go_wp2_with (at_builtin; go_must (refine wpList_append_new _ rfl (.tmp 23) (.tmp 24) 80 rfl w.heap.size 5 1 1 el_byteH _ _ _ HO.out rfl _ rfl rfl (by intro u hu; simp at hu; subst hu; rfl) (by unfold maxLen; omega) (by omega) HBL.out.size ?_); intro v2 w2 hown2 hb2)
      have hown3 : w2.ownsRow w.heap.size 5 1 v2 (r + 1 + (k + 1)) (byteVals (rest ++ 128 :: List.replicate (k + 1) 0)) := by
        have e : rest ++ 128 :: List.replicate (k + 1) 0 = (rest ++ 128 :: List.replicate k 0) ++ [0] := by rw [rep_snoc]; simp
        rw [e, ← byteVals_snoc _ 0 0 rfl]
        exact hown2
      have hvl : vlen v2 = r + 1 + k + 1 := by
        rcases hown3.2 with ⟨_, h0⟩ | ⟨g', cap', cur', hv, _⟩
        · omega
        · rw [hv]; rfl
      go_round
      case rel => exact ⟨k + 1, by omega, Lib.hid hown3, Lib.hid (HBL.out.trans hb2)⟩
      case measure => rw [hvl]; show 200 - (r + 1 + k + 1) < 200 - (r + 1 + k); omega
    · obtain rfl : k = Z := by omega
      have hq : ((r : Int) + 1 + (k : Int)) % 64 = 56 := by have := HZ.out.2; omega
      have hBk := HB.out.below' HBL.out
      have c9 := hBk.cell_ 9 (.int .i64 N) rfl
      clear hBk
      go_wp2_with fail
      clear htk hbk hsz hbg hnc hcm
      obtain ⟨L1, hL1⟩ : ∃ L1, rest ++ 128 :: List.replicate k 0 = L1 := ⟨_, rfl⟩
      obtain ⟨m1, hm1⟩ : ∃ m1, r + 1 + k = m1 := ⟨_, rfl⟩
      have hm1b : m1 ≤ 200 := by omega
      have hm1e : L1.length = m1 := by rw [← hL1, ← hm1, List.length_append, HLR.out]; simp; omega
      rw [hL1, hm1] at HO
      have HL1 := Lib.hid (And.intro hL1 (And.intro hm1 hm1e))
      have HQ := Lib.hid (And.intro hq hm1b)
      have hB8 : IntKind.i64.wrap ((N : Int) * 8) = (N : Int) * 8 := by rw [IntKind.wrap_i64]; omega
      clear hL1 hm1 hm1e hq
      go_loopw [3, 26] (fun vb vi wr => ∃ i : Nat, vi = .int .i64 (i : Nat) ∧ i ≤ 8 ∧ Hid (wr.ownsRow w.heap.size 5 1 vb (m1 + i) (byteVals (L1 ++ (lenW N).take i))) ∧ Hid (Below w.heap.size w wr)) (fun _ vi _ => 8 - (intOf vi).toNat)
      case atStart => exact ⟨0, rfl, by omega, Lib.hid (by rw [List.take_zero, List.append_nil, HL1.out.2.1]; exact HO.out), HBL⟩
      case round =>
        clear HO HBL c9
        obtain ⟨i, rfl, hi, HO, HBL⟩ := hrel
        have c9 := (HB.out.below' HBL.out).cell_ 9 (.int .i64 N) rfl
        by_cases hlt : i < 8
        · have hl8 : (i : Int) < 8 := by omega
          obtain ⟨bi, hbi⟩ : ∃ bi, (lenW N).getD i 0 = bi := ⟨_, rfl⟩
          have hv := lenW_get N i hN hlt
          have ht := lenW_take N i hlt
          rw [hbi] at hv ht
          have HV := Lib.hid (And.intro hv ht)
          obtain ⟨j, hj⟩ : ∃ j, i + 1 = j := ⟨_, rfl⟩
          have HJ := Lib.hid hj
          clear hv ht hbi hj
          have h8 : i = 0 ∨ i = 1 ∨ i = 2 ∨ i = 3 ∨ i = 4 ∨ i = 5 ∨ i = 6 ∨ i = 7 := by omega
          rcases h8 with rfl | rfl | rfl | rfl | rfl | rfl | rfl | rfl
          all_goals
            clear hlt hl8
            go_wp2_with (at_builtin; go_must (refine wpList_append_new _ rfl (.tmp 29) (.tmp 40) 80 rfl w.heap.size 5 1 1 el_byteH _ _ _ HO.out rfl _ rfl rfl (by intro u hu; simp at hu; subst hu; rfl) (by unfold maxLen; omega) (by omega) HBL.out.size ?_); intro v2 w2 hown2 hb2)
            have hown3 := snocH bi _ _ hown2 (by have h := HV.out.1; simp only [Nat.reduceMul, Nat.reduceSub, Int.reducePow] at h; omega) (show L1 ++ (lenW N).take j = _ by rw [← HJ.out, HV.out.2, List.append_assoc])
            go_round
            case rel => exact ⟨j, by rw [← HJ.out]; first | rfl | go_num, by have := HJ.out; omega, Lib.hid (by rw [← HJ.out] at hown3 ⊢; exact hown3), Lib.hid (HBL.out.trans hb2)⟩
            case measure => simp [intOf]
        · obtain rfl : i = 8 := by omega
          have hB3 := HB.out.below' HBL.out
          have c0 := hB3.cell_ 0 (.int .u32 (a0 : Nat)) rfl
          have c1 := hB3.cell_ 1 (.int .u32 (a1 : Nat)) rfl
          have c2 := hB3.cell_ 2 (.int .u32 (a2 : Nat)) rfl
          have c3 := hB3.cell_ 3 (.int .u32 (a3 : Nat)) rfl
          have c4 := hB3.cell_ 4 (.int .u32 (a4 : Nat)) rfl
          have c5 := hB3.cell_ 5 (.int .u32 (a5 : Nat)) rfl
          have c6 := hB3.cell_ 6 (.int .u32 (a6 : Nat)) rfl
          have c7 := hB3.cell_ 7 (.int .u32 (a7 : Nat)) rfl
          obtain ⟨bg2, bcap2, bcur2, rfl, hbg, hbk, hnc, hcm, htk⟩ := own_block HO.out (by omega)
          clear hB3 c9 bcur
          have hl8 : (lenW N).take 8 = lenW N := List.take_of_length_le (by rw [lenW_len]; omega)
          rw [hl8] at htk
          obtain ⟨TOT, hT⟩ : ∃ TOT, L1 ++ lenW N = TOT := ⟨_, rfl⟩
          have hTE : TOT = rest ++ padW N := by rw [← hT, ← HL1.out.1, padW_eq, HZ.out.1]; simp
          have hTL : TOT.length = m1 + 8 := by rw [← hT, List.length_append, HL1.out.2.2, lenW_len]
          have hTM : (m1 + 8) % 64 = 0 := by have := HQ.out.1; have := HL1.out.2.1; omega
          rw [hT] at htk
          have hrd := (hbk.alloc (.cells #[.int .u32 (a0 : Nat), .int .u32 (a1 : Nat), .int .u32 (a2 : Nat), .int .u32 (a3 : Nat), .int .u32 (a4 : Nat), .int .u32 (a5 : Nat), .int .u32 (a6 : Nat), .int .u32 (a7 : Nat)] 125)).rd (m1 + 8)
          rw [htk] at hrd
          have hgt := hbk.lt
          have hG := Lib.hid (And.intro hrd (And.intro ((Bk.new wr 125 (row8 [a0, a1, a2, a3, a4, a5, a6, a7]))) (And.intro (HBL.out.alloc HBL.out.size (.cells #[.int .u32 (a0 : Nat), .int .u32 (a1 : Nat), .int .u32 (a2 : Nat), .int .u32 (a3 : Nat), .int .u32 (a4 : Nat), .int .u32 (a5 : Nat), .int .u32 (a6 : Nat), .int .u32 (a7 : Nat)] 125)) (And.intro hTE (And.intro hTL (And.intro hTM hgt))))))
          clear htk hbk hrd hT hTE hTL hTM hgt HO hl8
          have HMIX : Hid (∀ (w' : World) (A : Option Addr) (c : Nat) (b : List UInt8) (a0 a1 a2 a3 a4 a5 a6 a7 b0 b1 b2 b3 b4 b5 b6 b7 : Nat), Wd8 [a0, a1, a2, a3, a4, a5, a6, a7] → b.length = 64 → Rd w' A (byteVals b) → mixW [a0, a1, a2, a3, a4, a5, a6, a7] b = [b0, b1, b2, b3, b4, b5, b6, b7] → Calls Try.prog 90 #[.agg #[.int .u32 (a0 : Nat), .int .u32 (a1 : Nat), .int .u32 (a2 : Nat), .int .u32 (a3 : Nat), .int .u32 (a4 : Nat), .int .u32 (a5 : Nat), .int .u32 (a6 : Nat), .int .u32 (a7 : Nat)], .slice A 64 c] w' fun e w'' => e = .returned (.agg #[.int .u32 (b0 : Nat), .int .u32 (b1 : Nat), .int .u32 (b2 : Nat), .int .u32 (b3 : Nat), .int .u32 (b4 : Nat), .int .u32 (b5 : Nat), .int .u32 (b6 : Nat), .int .u32 (b7 : Nat)]) ∧ Below w'.heap.size w' w'') := Lib.hid fun w' A c b a0 a1 a2 a3 a4 a5 a6 a7 b0 b1 b2 b3 b4 b5 b6 b7 h8 hb hr he => by
            have := mix_any a0 a1 a2 a3 a4 a5 a6 a7 b A c hb w' hr h8
            rw [he] at this
            exact this
          go_wp2_with fail
          have hsw := HBL.out.size
          obtain ⟨gv, hgv⟩ : ∃ gv, wr.heap.size = gv := ⟨_, rfl⟩
          rw [hgv] at hsw hG ⊢
          obtain ⟨H0, hH0⟩ : ∃ H0, [a0, a1, a2, a3, a4, a5, a6, a7] = H0 := ⟨_, rfl⟩
          rw [hH0] at HH
          have hG1 : Hid (Bk (wr.alloc (.cells #[.int .u32 (a0 : Nat), .int .u32 (a1 : Nat), .int .u32 (a2 : Nat), .int .u32 (a3 : Nat), .int .u32 (a4 : Nat), .int .u32 (a5 : Nat), .int .u32 (a6 : Nat), .int .u32 (a7 : Nat)] 125)) gv 125 (row8 H0)) := Lib.hid (by rw [← hH0]; exact hG.out.2.1)
          have HH0 := Lib.hid (And.intro hH0 hgv)
          have HGV := Lib.hid hgv
          clear hH0 hgv HB
          generalize wr.alloc (.cells #[.int .u32 (a0 : Nat), .int .u32 (a1 : Nat), .int .u32 (a2 : Nat), .int .u32 (a3 : Nat), .int .u32 (a4 : Nat), .int .u32 (a5 : Nat), .int .u32 (a6 : Nat), .int .u32 (a7 : Nat)] 125) = wz at *
          go_loopw [3] (fun v3 wr => ∃ (H : List Nat) (rs : List UInt8) (A : Option Addr) (c : Nat), v3 = .slice A rs.length c ∧ rs.length ≤ c ∧ c ≤ maxLen ∧ Hid (rs.length % 64 = 0) ∧ Hid (Wd8 H) ∧ Hid (Rd wr A (byteVals rs)) ∧ Hid (Off gv A (byteVals rs)) ∧ Hid (Bk wr gv 125 (row8 H)) ∧ Hid (Below w.heap.size w wr) ∧ Hid (blocksW (TOT.length / 64) H0 TOT = blocksW (rs.length / 64) H rs)) (fun v3 _ => vlen v3)
          case atStart => exact ⟨H0, TOT, some ⟨bg2, 0, none⟩, bcap2, by rw [hG.out.2.2.2.2.1], by rw [hG.out.2.2.2.2.1]; omega, hcm, Lib.hid (by rw [hG.out.2.2.2.2.1]; exact hG.out.2.2.2.2.2.1), HH, Lib.hid hG.out.1, Lib.hid (fun _ ad hA => by cases hA; show bg2 ≠ gv; have := hG.out.2.2.2.2.2.2; omega), hG1, Lib.hid hG.out.2.2.1, Lib.hid rfl⟩
          case round =>
            clear hcm hnc hG1 hbg HH c0 c1 c2 c3 c4 c5 c6 c7 hi hlt hB8 hkz hk hz hm1b
            obtain ⟨H, rs, A, c, rfl, hc1, hc2, HRM, HW, HR, HO, HBk, HBL2, HE⟩ := hrel
            obtain ⟨m, hm⟩ : ∃ m, rs.length = m := ⟨_, rfl⟩
            have HM := Lib.hid hm
            rw [hm] at hc1 HRM ⊢
            clear hm
            by_cases h0 : m = 0
            · subst h0
              have HF := Lib.hid (And.intro (show blocksW (TOT.length / 64) H0 TOT = H by rw [HE.out, HM.out]; rfl) trivial)
              clear HE HM
              obtain ⟨a0, a1, a2, a3, a4, a5, a6, a7, rfl⟩ := eight HW.out.1
              have c0 := HBk.out.cell_ 0 (.int .u32 (a0 : Nat)) rfl
              have c1 := HBk.out.cell_ 1 (.int .u32 (a1 : Nat)) rfl
              have c2 := HBk.out.cell_ 2 (.int .u32 (a2 : Nat)) rfl
              have c3 := HBk.out.cell_ 3 (.int .u32 (a3 : Nat)) rfl
              have c4 := HBk.out.cell_ 4 (.int .u32 (a4 : Nat)) rfl
              have c5 := HBk.out.cell_ 5 (.int .u32 (a5 : Nat)) rfl
              have c6 := HBk.out.cell_ 6 (.int .u32 (a6 : Nat)) rfl
              have c7 := HBk.out.cell_ 7 (.int .u32 (a7 : Nat)) rfl
              go_wp2_with fail
              obtain ⟨HX, hHX⟩ : ∃ HX, [a0, a1, a2, a3, a4, a5, a6, a7] = HX := ⟨_, rfl⟩
              have hLX : HX.length = 8 := by rw [← hHX]; rfl
              have hix : Hid (∀ (j : Nat) (w' : World), j < 8 → (Instr.index 125 (.agg #[.int .u32 (a0 : Nat), .int .u32 (a1 : Nat), .int .u32 (a2 : Nat), .int .u32 (a3 : Nat), .int .u32 (a4 : Nat), .int .u32 (a5 : Nat), .int .u32 (a6 : Nat), .int .u32 (a7 : Nat)]) (.int .i64 (j : Int))).run Try.prog w' = .ok (.int .u32 (HX.getD j 0 : Nat)) w') := Lib.hid fun j w' hj => run_index_agg 125 124 8 #[.int .u32 (a0 : Nat), .int .u32 (a1 : Nat), .int .u32 (a2 : Nat), .int .u32 (a3 : Nat), .int .u32 (a4 : Nat), .int .u32 (a5 : Nat), .int .u32 (a6 : Nat), .int .u32 (a7 : Nat)] j _ w' Try.underlying125 rfl rfl rfl hj (by rw [show (#[.int .u32 (a0 : Nat), .int .u32 (a1 : Nat), .int .u32 (a2 : Nat), .int .u32 (a3 : Nat), .int .u32 (a4 : Nat), .int .u32 (a5 : Nat), .int .u32 (a6 : Nat), .int .u32 (a7 : Nat)] : Array Value) = row8 HX by rw [← hHX]; rfl]; exact row8_get HX j (by omega))
              go_loopw [6, 57] (fun vo vi wr => ∃ i : Nat, vi = .int .i64 (i : Nat) ∧ i ≤ 8 ∧ Hid (wr.ownsRow w.heap.size 5 1 vo (4 * i) (byteVals ((HX.take i).flatMap bytes4))) ∧ Hid (Below w.heap.size w wr)) (fun _ vi _ => 8 - (intOf vi).toNat)
              case atStart => exact ⟨0, rfl, by omega, Lib.hid ⟨rfl, Or.inl ⟨rfl, rfl⟩⟩, HBL2⟩
              case round =>
                obtain ⟨i, rfl, hi, HO2, HBL3⟩ := hrel
                by_cases hlt : i < 8
                · have hl8 : (i : Int) < 8 := by omega
                  have hx := fun w' => hix.out i w' hlt
                  obtain ⟨x, hxE⟩ : ∃ x, HX.getD i 0 = x := ⟨_, rfl⟩
                  rw [hxE] at hx
                  have HXE := Lib.hid (And.intro hxE trivial)
                  clear hxE hlt c0 c1 c2 c3 c4 c5 c6 c7
                  go_wp2_with (at_builtin; go_must (refine wpList_append_rowN _ rfl (.tmp 60) (.tmp 72) 80 rfl w.heap.size 5 1 1 el_byteH _ _ _ HO2.out rfl _ 4 rfl rfl (by intro u hu; simp at hu; rcases hu with rfl | rfl | rfl | rfl <;> rfl) (by unfold maxLen; omega) (by omega) HBL3.out.size ?_); intro v2 w2 hown2 hb2)
                  have hown3 : w2.ownsRow w.heap.size 5 1 v2 (4 * (i + 1)) (byteVals ((HX.take (i + 1)).flatMap bytes4)) := by
                    rw [flat_step HX i (by omega), HXE.out.1, vals4]
                    exact hown2
                  go_round
                  case rel => exact ⟨i + 1, by first | rfl | go_num, by omega, Lib.hid hown3, Lib.hid (HBL3.out.trans hb2)⟩
                  case measure => simp [intOf]; omega
                · obtain rfl : i = 8 := by omega
                  have hcv := conv_own (P := Try.prog) HO2.out 80 9 5 Try.underlying80 Try.underlying5 Try.underlying9
                  rw [List.take_of_length_le (by omega)] at hcv
                  clear c0 c1 c2 c3 c4 c5 c6 c7
                  go_wp2_with fail
                  go_ret
                  refine ⟨?_, HBL3.out⟩
                  have hR : blocksW ((r + (padW N).length) / 64) H0 (rest ++ padW N) = HX := by
                    rw [← hHX, ← HF.out.1, ← hG.out.2.2.2.1, ← HLR.out, ← List.length_append, ← hG.out.2.2.2.1]
                  rw [HH0.out.1, hR]
                  rfl
            · obtain ⟨a0, a1, a2, a3, a4, a5, a6, a7, rfl⟩ := eight HW.out.1
              have h64 : 64 ≤ m := by have := HRM.out; omega
              have l64 : (64 : Int) ≤ (m : Int) := by omega
              have l0 : (0 : Int) < (m : Int) := by omega
              have l64c : (64 : Int) ≤ (c : Int) := by omega
              obtain ⟨bb, oo, rfl, hcl⟩ := HR.out (by intro e; have := byteVals_length rs; rw [e, HM.out] at this; simp at this; omega)
              have HCL := Lib.hid hcl
              have HRT : Hid (Rd wr (some ⟨bb, oo, none⟩) (byteVals (rs.take 64))) := Lib.hid (by have := HR.out.take 64; unfold byteVals at this ⊢; rw [← List.map_take] at this; exact this)
              have hw8 := mix_ok HW.out (rs.take 64)
              obtain ⟨b0, b1, b2, b3, b4, b5, b6, b7, hmx⟩ := eight hw8.1
              rw [hmx] at hw8
              have HMX := Lib.hid (And.intro hmx trivial)
              have HW2 := Lib.hid hw8
              clear hcl hmx hw8
              have c0 := HBk.out.cell_ 0 (.int .u32 (a0 : Nat)) rfl
              have c1 := HBk.out.cell_ 1 (.int .u32 (a1 : Nat)) rfl
              have c2 := HBk.out.cell_ 2 (.int .u32 (a2 : Nat)) rfl
              have c3 := HBk.out.cell_ 3 (.int .u32 (a3 : Nat)) rfl
              have c4 := HBk.out.cell_ 4 (.int .u32 (a4 : Nat)) rfl
              have c5 := HBk.out.cell_ 5 (.int .u32 (a5 : Nat)) rfl
              have c6 := HBk.out.cell_ 6 (.int .u32 (a6 : Nat)) rfl
              have c7 := HBk.out.cell_ 7 (.int .u32 (a7 : Nat)) rfl
              go_wp2_with fail
              go_region_with (go_at_call 90; go_loud ((with_reducible refine (HMIX.out _ (some ⟨bb, oo, none⟩) c (rs.take 64) a0 a1 a2 a3 a4 a5 a6 a7 b0 b1 b2 b3 b4 b5 b6 b7 HW.out (by rw [List.length_take, HM.out]; omega) (Rd.drewH HRT.out) HMX.out.1).mono ?_); rintro e w3 ⟨rfl, hb3⟩; have hB3 : Bk w3 gv 125 (row8 [a0, a1, a2, a3, a4, a5, a6, a7]) := HBk.out.below' (below_of_drew hb3); have d0 := hB3.cell_ 0 (.int .u32 (a0 : Nat)) rfl; have z0 := hB3.frozen 0; have d1 := hB3.cell_ 1 (.int .u32 (a1 : Nat)) rfl; have z1 := hB3.frozen 1; have d2 := hB3.cell_ 2 (.int .u32 (a2 : Nat)) rfl; have z2 := hB3.frozen 2; have d3 := hB3.cell_ 3 (.int .u32 (a3 : Nat)) rfl; have z3 := hB3.frozen 3; have d4 := hB3.cell_ 4 (.int .u32 (a4 : Nat)) rfl; have z4 := hB3.frozen 4; have d5 := hB3.cell_ 5 (.int .u32 (a5 : Nat)) rfl; have z5 := hB3.frozen 5; have d6 := hB3.cell_ 6 (.int .u32 (a6 : Nat)) rfl; have z6 := hB3.frozen 6; have d7 := hB3.cell_ 7 (.int .u32 (a7 : Nat)) rfl; have z7 := hB3.frozen 7))
              all_goals
                have hb3' := below_of_drew hb3
                have hB4 := ((((((((hB3.set_ 0 (.int .u32 (b0 : Nat))).set_ 1 (.int .u32 (b1 : Nat))).set_ 2 (.int .u32 (b2 : Nat))).set_ 3 (.int .u32 (b3 : Nat))).set_ 4 (.int .u32 (b4 : Nat))).set_ 5 (.int .u32 (b5 : Nat))).set_ 6 (.int .u32 (b6 : Nat))).set_ 7 (.int .u32 (b7 : Nat)))
                rw [row8_words] at hB4
                have hbl4 := (HBL2.out.trans (hb3'.mono HBL2.out.size)).trans (below_only (only_trans (only_trans (only_trans (only_trans (only_trans (only_trans (only_trans (only_set w3 gv 0 (.int .u32 (b0 : Nat))) (only_set (w3.setCell ⟨gv, 0, none⟩ (.int .u32 (b0 : Nat))) gv 1 (.int .u32 (b1 : Nat)))) (only_set ((w3.setCell ⟨gv, 0, none⟩ (.int .u32 (b0 : Nat))).setCell ⟨gv, 1, none⟩ (.int .u32 (b1 : Nat))) gv 2 (.int .u32 (b2 : Nat)))) (only_set (((w3.setCell ⟨gv, 0, none⟩ (.int .u32 (b0 : Nat))).setCell ⟨gv, 1, none⟩ (.int .u32 (b1 : Nat))).setCell ⟨gv, 2, none⟩ (.int .u32 (b2 : Nat))) gv 3 (.int .u32 (b3 : Nat)))) (only_set ((((w3.setCell ⟨gv, 0, none⟩ (.int .u32 (b0 : Nat))).setCell ⟨gv, 1, none⟩ (.int .u32 (b1 : Nat))).setCell ⟨gv, 2, none⟩ (.int .u32 (b2 : Nat))).setCell ⟨gv, 3, none⟩ (.int .u32 (b3 : Nat))) gv 4 (.int .u32 (b4 : Nat)))) (only_set (((((w3.setCell ⟨gv, 0, none⟩ (.int .u32 (b0 : Nat))).setCell ⟨gv, 1, none⟩ (.int .u32 (b1 : Nat))).setCell ⟨gv, 2, none⟩ (.int .u32 (b2 : Nat))).setCell ⟨gv, 3, none⟩ (.int .u32 (b3 : Nat))).setCell ⟨gv, 4, none⟩ (.int .u32 (b4 : Nat))) gv 5 (.int .u32 (b5 : Nat)))) (only_set ((((((w3.setCell ⟨gv, 0, none⟩ (.int .u32 (b0 : Nat))).setCell ⟨gv, 1, none⟩ (.int .u32 (b1 : Nat))).setCell ⟨gv, 2, none⟩ (.int .u32 (b2 : Nat))).setCell ⟨gv, 3, none⟩ (.int .u32 (b3 : Nat))).setCell ⟨gv, 4, none⟩ (.int .u32 (b4 : Nat))).setCell ⟨gv, 5, none⟩ (.int .u32 (b5 : Nat))) gv 6 (.int .u32 (b6 : Nat)))) (only_set (((((((w3.setCell ⟨gv, 0, none⟩ (.int .u32 (b0 : Nat))).setCell ⟨gv, 1, none⟩ (.int .u32 (b1 : Nat))).setCell ⟨gv, 2, none⟩ (.int .u32 (b2 : Nat))).setCell ⟨gv, 3, none⟩ (.int .u32 (b3 : Nat))).setCell ⟨gv, 4, none⟩ (.int .u32 (b4 : Nat))).setCell ⟨gv, 5, none⟩ (.int .u32 (b5 : Nat))).setCell ⟨gv, 6, none⟩ (.int .u32 (b6 : Nat))) gv 7 (.int .u32 (b7 : Nat)))) hsw (Nat.le_trans HBL2.out.size hb3'.size))
                have hr3 := HR.out.below hb3'
                have hr4 := ((((((((hr3.only (only_set w3 gv 0 (.int .u32 (b0 : Nat))) HO.out).only (only_set (w3.setCell ⟨gv, 0, none⟩ (.int .u32 (b0 : Nat))) gv 1 (.int .u32 (b1 : Nat))) HO.out).only (only_set ((w3.setCell ⟨gv, 0, none⟩ (.int .u32 (b0 : Nat))).setCell ⟨gv, 1, none⟩ (.int .u32 (b1 : Nat))) gv 2 (.int .u32 (b2 : Nat))) HO.out).only (only_set (((w3.setCell ⟨gv, 0, none⟩ (.int .u32 (b0 : Nat))).setCell ⟨gv, 1, none⟩ (.int .u32 (b1 : Nat))).setCell ⟨gv, 2, none⟩ (.int .u32 (b2 : Nat))) gv 3 (.int .u32 (b3 : Nat))) HO.out).only (only_set ((((w3.setCell ⟨gv, 0, none⟩ (.int .u32 (b0 : Nat))).setCell ⟨gv, 1, none⟩ (.int .u32 (b1 : Nat))).setCell ⟨gv, 2, none⟩ (.int .u32 (b2 : Nat))).setCell ⟨gv, 3, none⟩ (.int .u32 (b3 : Nat))) gv 4 (.int .u32 (b4 : Nat))) HO.out).only (only_set (((((w3.setCell ⟨gv, 0, none⟩ (.int .u32 (b0 : Nat))).setCell ⟨gv, 1, none⟩ (.int .u32 (b1 : Nat))).setCell ⟨gv, 2, none⟩ (.int .u32 (b2 : Nat))).setCell ⟨gv, 3, none⟩ (.int .u32 (b3 : Nat))).setCell ⟨gv, 4, none⟩ (.int .u32 (b4 : Nat))) gv 5 (.int .u32 (b5 : Nat))) HO.out).only (only_set ((((((w3.setCell ⟨gv, 0, none⟩ (.int .u32 (b0 : Nat))).setCell ⟨gv, 1, none⟩ (.int .u32 (b1 : Nat))).setCell ⟨gv, 2, none⟩ (.int .u32 (b2 : Nat))).setCell ⟨gv, 3, none⟩ (.int .u32 (b3 : Nat))).setCell ⟨gv, 4, none⟩ (.int .u32 (b4 : Nat))).setCell ⟨gv, 5, none⟩ (.int .u32 (b5 : Nat))) gv 6 (.int .u32 (b6 : Nat))) HO.out).only (only_set (((((((w3.setCell ⟨gv, 0, none⟩ (.int .u32 (b0 : Nat))).setCell ⟨gv, 1, none⟩ (.int .u32 (b1 : Nat))).setCell ⟨gv, 2, none⟩ (.int .u32 (b2 : Nat))).setCell ⟨gv, 3, none⟩ (.int .u32 (b3 : Nat))).setCell ⟨gv, 4, none⟩ (.int .u32 (b4 : Nat))).setCell ⟨gv, 5, none⟩ (.int .u32 (b5 : Nat))).setCell ⟨gv, 6, none⟩ (.int .u32 (b6 : Nat))) gv 7 (.int .u32 (b7 : Nat))) HO.out)
                clear d0 z0 d1 z1 d2 z2 d3 z3 d4 z4 d5 z5 d6 z6 d7 z7 hb3 hb3' hr3 hB3
                generalize ((((((((w3.setCell ⟨gv, 0, none⟩ (.int .u32 (b0 : Nat))).setCell ⟨gv, 1, none⟩ (.int .u32 (b1 : Nat))).setCell ⟨gv, 2, none⟩ (.int .u32 (b2 : Nat))).setCell ⟨gv, 3, none⟩ (.int .u32 (b3 : Nat))).setCell ⟨gv, 4, none⟩ (.int .u32 (b4 : Nat))).setCell ⟨gv, 5, none⟩ (.int .u32 (b5 : Nat))).setCell ⟨gv, 6, none⟩ (.int .u32 (b6 : Nat))).setCell ⟨gv, 7, none⟩ (.int .u32 (b7 : Nat))) = w4 at *
                have HB4 := Lib.hid hB4
                have HBL4 := Lib.hid hbl4
                have HR4 := Lib.hid hr4
                clear hB4 hbl4 hr4 c0 c1 c2 c3 c4 c5 c6 c7 HR HCL HRT HBk HBL2
                have HRD : Hid (Rd w4 (some ⟨bb, oo + 64, none⟩) (byteVals (rs.drop 64))) := Lib.hid (by
                  obtain ⟨bb', oo', he, hcl⟩ := HR4.out (by intro e; have := byteVals_length rs; rw [e, HM.out] at this; simp at this; omega)
                  cases he
                  exact Rd.dropH hcl 64)
                have HE2 : Hid (blocksW (TOT.length / 64) H0 TOT = blocksW ((rs.drop 64).length / 64) [b0, b1, b2, b3, b4, b5, b6, b7] (rs.drop 64)) := Lib.hid (by rw [HE.out, blocks_step _ _ (by rw [HM.out]; exact h64), HMX.out.1])
                have HDL := Lib.hid (show (rs.drop 64).length = m - 64 by rw [List.length_drop, HM.out])
                by_cases hkc : c = 64
                · subst hkc
                  obtain rfl : m = 64 := by omega
                  have HNL := Lib.hid (show rs.drop 64 = [] from List.eq_nil_of_length_eq_zero (by rw [HDL.out]))
                  go_wp2_with fail
                  go_round
                  case rel => exact ⟨[b0, b1, b2, b3, b4, b5, b6, b7], rs.drop 64, some ⟨bb, oo, none⟩, 0, ⟨rfl, by rw [HDL.out], rfl⟩, by rw [HDL.out]; omega, by omega, Lib.hid (by rw [HDL.out]), HW2, Lib.hid (by rw [HNL.out]; exact Rd.nil _ _), Lib.hid (by rw [HNL.out]; intro h; exact absurd rfl h), HB4, HE2⟩
                  case measure => show 0 < 64; omega
                · have hkc2 : ¬ ((64 : Int) = (c : Int)) := by omega
                  have hkc3 : ¬ ((c : Int) = 64) := by omega
                  have HOF : Hid (Off gv (some ⟨bb, oo + 64, none⟩) (byteVals (rs.drop 64))) := Lib.hid fun h ad hA => by
                    have h1 := HO.out (by intro e; have := byteVals_length rs; rw [e, HM.out] at this; simp at this; omega) _ rfl
                    cases hA
                    exact h1
                  go_wp2_with fail
                  go_round
                  case rel => (repeat apply Exists.intro); exact ⟨⟨[b0, b1, b2, b3, b4, b5, b6, b7], rs.drop 64, some ⟨bb, oo + 64, none⟩, c - 64, by rw [HDL.out], by rw [HDL.out]; omega, by omega, Lib.hid (by rw [HDL.out]; have := HRM.out; omega), HW2, HRD, HOF, HB4, HBL4, HE2⟩, rfl⟩
                  case measure => show m - 64 < m; omega
end Go.Proofs.Ytnhbkfefpkocaaa
namespace Go.Proofs.Ytnhbkfefpkocaaa
open Go.RowKit Go.Lib

theorem blocks_split : ∀ (k j : Nat) (H : List Nat) (s p : List UInt8), 64 * k ≤ s.length → blocksW (k + j) H (s ++ p) = blocksW j (blocksW k H s) (s.drop (64 * k) ++ p)
  | 0, j, H, s, p, _ => by simp [blocksW]
  | k + 1, j, H, s, p, h => by
    rw [show k + 1 + j = (k + j) + 1 by omega]
    simp only [blocksW]
    rw [List.take_append_of_le_length (by omega), List.drop_append_of_le_length (by omega), blocks_split k j _ (s.drop 64) p (by rw [List.length_drop]; omega), List.drop_drop, show 64 + 64 * k = 64 * (k + 1) by omega]
theorem sha_blocks (s : List UInt8) : blocksW ((s.length % 64 + (padW s.length).length) / 64) (blocksW (s.length / 64) startW s) (s.drop (64 * (s.length / 64)) ++ padW s.length) = blocksW ((s.length + (padW s.length).length) / 64) startW (s ++ padW s.length) := by
  rw [← blocks_split (s.length / 64) _ startW s (padW s.length) (by omega)]
  congr 1
  omega

/-- What a hash box holds ahead of its text (0) and behind it. -/
def SumAt (w wr : World) (s : ByteArray) (i : Nat) : Prop :=
  Below w.heap.size w wr ∧ ((i = 0 ∧ Bk wr w.heap.size 127 (hrow startW (.slice none 0 0) 0)) ∨ (i = 1 ∧ ∃ A c, Bk wr w.heap.size 127 (hrow (blocksW (s.size / 64) startW s.toList) (.slice A (s.size % 64) c) s.size) ∧ Rd wr A (byteVals (s.toList.drop (64 * (s.size / 64))))))

set_option maxRecDepth 20000 in
set_option maxHeartbeats 1000000 in
theorem shaSum_any (s : ByteArray) (A : Option Addr) (c : Nat) (w : World) (hs : s.size ≤ 1000000000) (hr : Rd w A [.string s]) :
    Calls Try.prog 37 #[.slice A 1 c] w fun e w' => e = .returned (.string (ofL (shaW s.toList))) ∧ Below w.heap.size w w' := by
  obtain ⟨b, o, rfl, hcell⟩ := hr (by simp)
  have hc0 : w.cell? ⟨b, o, none⟩ = some (.string s) := hcell 0 _ rfl
  have HC := Lib.hid hc0
  clear hcell hr hc0
  go_enter Try.func37, Try.ntmps37
  go_wp2_with fail
  refine (shaNew_any _).mono ?_
  rintro e w1 ⟨rfl, hw1⟩
  have H1 : Hid (SumAt w w1 s 0) := Lib.hid ⟨by rw [hw1]; exact (Below.refl _ w).alloc (Nat.le_refl _) _, Or.inl ⟨rfl, by rw [hw1]; exact Bk.new w _ _⟩⟩
  clear hw1
  go_wp2_with fail
  go_loopw [9] (fun vi wr => ∃ i : Nat, vi = .int .i64 (i : Nat) ∧ i ≤ 1 ∧ Hid (SumAt w wr s i)) (fun vi _ => 1 - (intOf vi).toNat)
  case atStart => exact ⟨0, rfl, by omega, H1⟩
  case round =>
    clear H1
    obtain ⟨i, rfl, hi, HS⟩ := hrel
    have h01 : i = 0 ∨ i = 1 := by omega
    rcases h01 with rfl | rfl
    · have hcc : wr.cell? ⟨b, o, none⟩ = some (.string s) := (HS.out.1.cell (World.block_lt_of_cell? w _ HC.out)).trans HC.out
      have hbk : Bk wr w.heap.size 127 (hrow startW (.slice none 0 0) 0) := by
        rcases HS.out.2 with ⟨_, h⟩ | ⟨h, _⟩
        · exact h
        · cases h
      have HBK := Lib.hid hbk
      clear hbk
      go_wp2_with fail
      refine (write_any s w.heap.size wr hs HBK.out).mono ?_
      rintro e w2 ⟨rfl, A2, c2, hb2, _, _, hr2, hgr⟩
      have H2 : Hid (SumAt w w2 s 1) := Lib.hid ⟨HS.out.1.grown hgr HS.out.1.size (fun k hk => by cases hk; exact Nat.le_refl _), Or.inr ⟨rfl, A2, c2, hb2, hr2⟩⟩
      clear hb2 hr2 hgr
      go_wp2_with fail
      go_round
      case rel => exact ⟨1, rfl, by omega, H2⟩
      case measure => simp [intOf]
    · obtain ⟨A2, c2, hb2, hr2⟩ : ∃ A c, Bk wr w.heap.size 127 (hrow (blocksW (s.size / 64) startW s.toList) (.slice A (s.size % 64) c) s.size) ∧ Rd wr A (byteVals (s.toList.drop (64 * (s.size / 64)))) := by
        rcases HS.out.2 with ⟨h, _⟩ | ⟨_, h⟩
        · cases h
        · exact h
      have hbo : Wd8 (blocksW (s.size / 64) startW s.toList) := blocks_ok _ _ _ start_ok
      obtain ⟨a0, a1, a2, a3, a4, a5, a6, a7, hE⟩ := eight hbo.1
      have HE := Lib.hid (And.intro hE trivial)
      rw [hE] at hbo hb2
      have HB2 := Lib.hid (And.intro hb2 (And.intro hr2 hbo))
      clear hE hb2 hr2 hbo
      go_wp2_with fail
      refine (hsum_any a0 a1 a2 a3 a4 a5 a6 a7 (s.toList.drop (64 * (s.size / 64))) s.size (s.size % 64) w.heap.size A2 c2 wr hs rfl (by rw [List.length_drop, size_toList]; omega) HB2.out.2.2 HB2.out.1 HB2.out.2.1).mono ?_
      rintro e w3 ⟨rfl, hb3⟩
      have HF := Lib.hid (And.intro (HS.out.1.trans (hb3.mono HS.out.1.size)) trivial)
      have hval : Value.string (ofL ((blocksW ((s.size % 64 + (padW s.size).length) / 64) [a0, a1, a2, a3, a4, a5, a6, a7] (s.toList.drop (64 * (s.size / 64)) ++ padW s.size)).flatMap bytes4)) = .string (ofL (shaW s.toList)) := by
        have := sha_blocks s.toList
        rw [size_toList] at this
        rw [← HE.out.1, this]
        unfold shaW
        rw [size_toList]
      rw [hval]
      clear hval hb3
      go_wp2_with fail
      go_ret
      exact ⟨rfl, HF.out.1⟩
end Go.Proofs.Ytnhbkfefpkocaaa
namespace Go.Proofs.Ytnhbkfefpkocaaa
open Go.RowKit Go.Lib

theorem rot63 (x k : Nat) (h : x < 4294967296) : bits .or .i64 ((x : Int) / 2 ^ k) (bits .and .i64 (IntKind.i64.wrap ((x : Int) * 2 ^ (32 - k))) 4294967295) = (rot x k : Nat) := by
  have e1 : (x : Int) / 2 ^ k = ((x / 2 ^ k : Nat) : Int) := by simp
  have e2 : IntKind.i64.wrap ((x : Int) * 2 ^ (32 - k)) % 4294967296 = ((x * 2 ^ (32 - k) % 4294967296 : Nat) : Int) := by
    have : (x : Int) * 2 ^ (32 - k) = ((x * 2 ^ (32 - k) : Nat) : Int) := by simp
    rw [this]
    generalize x * 2 ^ (32 - k) = y
    rw [IntKind.wrap_i64]
    omega
  rw [low32, e1, e2]
  refine or63 _ _ (Nat.lt_of_le_of_lt (Nat.div_le_self _ _) (by omega)) (by omega)
set_option maxRecDepth 20000 in
set_option maxHeartbeats 2000000 in
theorem rotr_any (x k : Nat) (w : World) (h1 : x < 4294967296) (hk : k ≤ 32) :
    Calls Try.prog 86 #[.int .i64 x, .int .i64 k] w fun e w' => e = .returned (.int .i64 (rot x k : Nat)) ∧ ∃ m, w' = w.drewN m := by
  go_enter Try.func86, Try.ntmps86
  go_wp2_with fail
  go_quiet (fail)
  go_wp2_with fail
  go_ret
  have hr := rot63 x k h1
  rw [IntWalk.i64_left] at hr
  exact ⟨congrArg (fun n => Ending.returned (Value.int .i64 n)) hr, _, rfl⟩
theorem rotr_g {x k r : Nat} (hr : rot x k = r) (h1 : x < 4294967296) (hk : k ≤ 32) (w : World) :
    Calls Try.prog 86 #[.int .i64 x, .int .i64 (k : Nat)] w fun e w' => e = .returned (.int .i64 (r : Nat)) ∧ ∃ m, w' = w.drewN m := by
  subst hr
  exact rotr_any x k w h1 hk

theorem one63 (e f g h k w r1 r2 r3 : Nat) (he : e < 4294967296) (hf : f < 4294967296) (hg : g < 4294967296) (hh : h < 4294967296) (hk : k < 4294967296) (hw : w < 4294967296) (h1 : rot e 6 = r1) (h2 : rot e 11 = r2) (h3 : rot e 25 = r3) :
    ∃ x1 x2 x3 x4 x5 x6 p1 p2 p3 p4 : Nat, bits .xor .i64 (r1 : Int) (r2 : Int) = (x1 : Int) ∧ bits .xor .i64 (x1 : Int) (r3 : Int) = (x2 : Int) ∧ bits .and .i64 (e : Int) (f : Int) = (x3 : Int) ∧
      IntKind.i64.wrap (4294967295 - (e : Int)) = (x4 : Int) ∧ bits .and .i64 (x4 : Int) (g : Int) = (x5 : Int) ∧ bits .xor .i64 (x3 : Int) (x5 : Int) = (x6 : Int) ∧
      IntKind.i64.wrap ((h : Int) + x2) = (p1 : Int) ∧ IntKind.i64.wrap ((p1 : Int) + x6) = (p2 : Int) ∧ IntKind.i64.wrap ((p2 : Int) + k) = (p3 : Int) ∧ IntKind.i64.wrap ((p3 : Int) + w) = (p4 : Int) ∧ bits .and .i64 (p4 : Int) 4294967295 = (oneW e f g h k w : Nat) := by
  have l1 : r1 < 4294967296 := by rw [← h1]; exact rot_lt _ _ he
  have l2 : r2 < 4294967296 := by rw [← h2]; exact rot_lt _ _ he
  have l3 : r3 < 4294967296 := by rw [← h3]; exact rot_lt _ _ he
  have l12 := Nat.xor_lt_two_pow (n := 32) l1 l2
  have l123 := Nat.xor_lt_two_pow (n := 32) l12 l3
  have l5 : (4294967295 - e) &&& g < 4294967296 := Nat.and_lt_two_pow (n := 32) _ hg
  have l6 : e &&& f < 4294967296 := Nat.and_lt_two_pow (n := 32) _ hf
  have l56 := Nat.xor_lt_two_pow (n := 32) l6 l5
  simp only [Nat.reducePow] at l12 l123 l56
  refine ⟨r1 ^^^ r2, r1 ^^^ r2 ^^^ r3, e &&& f, 4294967295 - e, (4294967295 - e) &&& g, (e &&& f) ^^^ ((4294967295 - e) &&& g), h + (r1 ^^^ r2 ^^^ r3), h + (r1 ^^^ r2 ^^^ r3) + ((e &&& f) ^^^ ((4294967295 - e) &&& g)), h + (r1 ^^^ r2 ^^^ r3) + ((e &&& f) ^^^ ((4294967295 - e) &&& g)) + k, h + (r1 ^^^ r2 ^^^ r3) + ((e &&& f) ^^^ ((4294967295 - e) &&& g)) + k + w,
    xor63 _ _ (by omega) (by omega), xor63 _ _ (by omega) (by omega), and63 _ _ (by omega) (by omega), ?_, and63 _ _ (by omega) (by omega), xor63 _ _ (by omega) (by omega), ?_, ?_, ?_, ?_, ?_⟩
  · rw [IntKind.wrap_i64]; omega
  · rw [IntKind.wrap_i64]; omega
  · rw [IntKind.wrap_i64]; omega
  · rw [IntKind.wrap_i64]; omega
  · rw [IntKind.wrap_i64]; omega
  · rw [low32]; unfold oneW; rw [h1, h2, h3]; omega
theorem two63 (a b c r1 r2 r3 : Nat) (ha : a < 4294967296) (hb : b < 4294967296) (hc : c < 4294967296) (h1 : rot a 2 = r1) (h2 : rot a 13 = r2) (h3 : rot a 22 = r3) :
    ∃ x1 x2 x3 x4 x5 x6 x7 p1 : Nat, bits .xor .i64 (r1 : Int) (r2 : Int) = (x1 : Int) ∧ bits .xor .i64 (x1 : Int) (r3 : Int) = (x2 : Int) ∧ bits .and .i64 (a : Int) (b : Int) = (x3 : Int) ∧
      bits .and .i64 (a : Int) (c : Int) = (x4 : Int) ∧ bits .xor .i64 (x3 : Int) (x4 : Int) = (x5 : Int) ∧ bits .and .i64 (b : Int) (c : Int) = (x6 : Int) ∧ bits .xor .i64 (x5 : Int) (x6 : Int) = (x7 : Int) ∧
      IntKind.i64.wrap ((x2 : Int) + x7) = (p1 : Int) ∧ bits .and .i64 (p1 : Int) 4294967295 = (twoW a b c : Nat) := by
  have l1 : r1 < 4294967296 := by rw [← h1]; exact rot_lt _ _ ha
  have l2 : r2 < 4294967296 := by rw [← h2]; exact rot_lt _ _ ha
  have l3 : r3 < 4294967296 := by rw [← h3]; exact rot_lt _ _ ha
  have l12 := Nat.xor_lt_two_pow (n := 32) l1 l2
  have l123 := Nat.xor_lt_two_pow (n := 32) l12 l3
  have m1 : a &&& b < 4294967296 := Nat.and_lt_two_pow (n := 32) _ hb
  have m2 : a &&& c < 4294967296 := Nat.and_lt_two_pow (n := 32) _ hc
  have m3 : b &&& c < 4294967296 := Nat.and_lt_two_pow (n := 32) _ hc
  have m12 := Nat.xor_lt_two_pow (n := 32) m1 m2
  have m123 := Nat.xor_lt_two_pow (n := 32) m12 m3
  simp only [Nat.reducePow] at l12 l123 m12 m123
  refine ⟨r1 ^^^ r2, r1 ^^^ r2 ^^^ r3, a &&& b, a &&& c, (a &&& b) ^^^ (a &&& c), b &&& c, (a &&& b) ^^^ (a &&& c) ^^^ (b &&& c), (r1 ^^^ r2 ^^^ r3) + ((a &&& b) ^^^ (a &&& c) ^^^ (b &&& c)),
    xor63 _ _ (by omega) (by omega), xor63 _ _ (by omega) (by omega), and63 _ _ (by omega) (by omega), and63 _ _ (by omega) (by omega), xor63 _ _ (by omega) (by omega), and63 _ _ (by omega) (by omega), xor63 _ _ (by omega) (by omega), ?_, ?_⟩
  · rw [IntKind.wrap_i64]; omega
  · rw [low32]; unfold twoW; rw [h1, h2, h3]; omega
theorem s63 (x r1 r2 d : Nat) (a b c : Nat) (hx : x < 4294967296) (h1 : rot x a = r1) (h2 : rot x b = r2) (hd : x / 2 ^ c = d) :
    ∃ x1 x2 : Nat, bits .xor .i64 (r1 : Int) (r2 : Int) = (x1 : Int) ∧ bits .xor .i64 (x1 : Int) (d : Int) = (x2 : Int) ∧ x2 = rot x a ^^^ rot x b ^^^ x / 2 ^ c ∧ x2 < 4294967296 := by
  have l1 : r1 < 4294967296 := by rw [← h1]; exact rot_lt _ _ hx
  have l2 : r2 < 4294967296 := by rw [← h2]; exact rot_lt _ _ hx
  have l3 : d < 4294967296 := by rw [← hd]; exact Nat.lt_of_le_of_lt (Nat.div_le_self _ _) hx
  have l12 := Nat.xor_lt_two_pow (n := 32) l1 l2
  have l123 := Nat.xor_lt_two_pow (n := 32) l12 l3
  simp only [Nat.reducePow] at l12 l123
  exact ⟨r1 ^^^ r2, r1 ^^^ r2 ^^^ d, xor63 _ _ (by omega) (by omega), xor63 _ _ (by omega) (by omega), by rw [h1, h2, hd], l123⟩

/-- Words as ints. -/
def natVals (l : List Nat) : List Value := l.map fun k => Value.int .i64 (k : Nat)
theorem natVals_length (l : List Nat) : (natVals l).length = l.length := by simp [natVals]
theorem natVals_get (l : List Nat) (i : Nat) (h : i < l.length) : (natVals l)[i]? = some (.int .i64 (l.getD i 0 : Nat)) := by
  unfold natVals
  simp [h]
theorem natVals_snoc (l : List Nat) (x : Nat) (X : Int) (h : (x : Int) = X) : natVals l ++ [.int .i64 X] = natVals (l ++ [x]) := by simp [natVals, h]
theorem el_intH : El Try.prog 63 3 1 8 := El.mk_ (z := .int .i64 0) Try.underlying63 (by kernel_rfl) (by decide) (by rfl)
set_option maxRecDepth 20000 in
theorem rstart_any (w : World) : Calls Try.prog 83 #[] w fun e w' => e = .returned (.slice (some ⟨w.heap.size, 0, none⟩) 8 8) ∧ w' = w.alloc (.cells (natVals startW).toArray 3) := by
  go_enter Try.func83, Try.ntmps83
  go_wp2_with fail
  go_ret
  exact ⟨rfl, rfl⟩
set_option maxRecDepth 20000 in
theorem rrounds_any (w : World) : Calls Try.prog 84 #[] w fun e w' => e = .returned (.slice (some ⟨w.heap.size, 0, none⟩) 64 64) ∧ w' = w.alloc (.cells (natVals kTab).toArray 3) := by
  go_enter Try.func84, Try.ntmps84
  go_wp2_with fail
  go_ret
  exact ⟨rfl, rfl⟩
end Go.Proofs.Ytnhbkfefpkocaaa
