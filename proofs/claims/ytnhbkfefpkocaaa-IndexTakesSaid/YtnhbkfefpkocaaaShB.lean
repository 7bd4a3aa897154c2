/-
  sha: round (the table of the words K). Printed by genShB.py.
-/
import Derived.Test.YtnhbkfefpkocaaaP6
import Derived.Shelf.SlSortCmp.QuietGrown
namespace Go.Proofs.Ytnhbkfefpkocaaa
open Go.RowKit

/-- A 'build' whose value is known. -/
theorem wpList_built {P : Program} {ops : Array Oper} {rest : List Oper} {o : Oper} {a : Act} {w : World} {Q : Exit → Act → World → Prop} (hgd : o.guard = none) (t : TypeId) (parts : Array (Nat × Operand)) (ho : o.op = .build t parts) (vals : Array (Nat × Value)) (v : Value) (hv : (parts.map fun (i, x) => (i, a.eval x)) = vals)
    (hr : ∀ w : World, (Instr.build t vals).run P w = .ok v w) (h : wpList P ops Q rest (a.put o.dst v) w) : wpList P ops Q (o :: rest) a w :=
  wpList_plain hgd fun K hK => by
    unfold Oper.wp execOp
    simp only [ho, hv, Sem.run_bind, hr, Result.andThen_ok]
    exact hK _ _ h
def kRow : Array Value := (kTab.map fun k => Value.int .u32 (k : Nat)).toArray
theorem kRow_size : kRow.size = 64 := by kernel_rfl
theorem k_built : Try.prog.built 140 [(0, .int .u32 1116352408), (1, .int .u32 1899447441), (2, .int .u32 3049323471), (3, .int .u32 3921009573), (4, .int .u32 961987163), (5, .int .u32 1508970993), (6, .int .u32 2453635748), (7, .int .u32 2870763221), (8, .int .u32 3624381080), (9, .int .u32 310598401), (10, .int .u32 607225278), (11, .int .u32 1426881987), (12, .int .u32 1925078388), (13, .int .u32 2162078206), (14, .int .u32 2614888103), (15, .int .u32 3248222580), (16, .int .u32 3835390401), (17, .int .u32 4022224774), (18, .int .u32 264347078), (19, .int .u32 604807628), (20, .int .u32 770255983), (21, .int .u32 1249150122), (22, .int .u32 1555081692), (23, .int .u32 1996064986), (24, .int .u32 2554220882), (25, .int .u32 2821834349), (26, .int .u32 2952996808), (27, .int .u32 3210313671), (28, .int .u32 3336571891), (29, .int .u32 3584528711), (30, .int .u32 113926993), (31, .int .u32 338241895), (32, .int .u32 666307205), (33, .int .u32 773529912), (34, .int .u32 1294757372), (35, .int .u32 1396182291), (36, .int .u32 1695183700), (37, .int .u32 1986661051), (38, .int .u32 2177026350), (39, .int .u32 2456956037), (40, .int .u32 2730485921), (41, .int .u32 2820302411), (42, .int .u32 3259730800), (43, .int .u32 3345764771), (44, .int .u32 3516065817), (45, .int .u32 3600352804), (46, .int .u32 4094571909), (47, .int .u32 275423344), (48, .int .u32 430227734), (49, .int .u32 506948616), (50, .int .u32 659060556), (51, .int .u32 883997877), (52, .int .u32 958139571), (53, .int .u32 1322822218), (54, .int .u32 1537002063), (55, .int .u32 1747873779), (56, .int .u32 1955562222), (57, .int .u32 2024104815), (58, .int .u32 2227730452), (59, .int .u32 2361852424), (60, .int .u32 2428436474), (61, .int .u32 2756734187), (62, .int .u32 3204031479), (63, .int .u32 3329325298)] = some kRow := by kernel_rfl
theorem kRow_get (i : Nat) (hi : i < 64) : kRow[i]? = some (.int .u32 (kTab.getD i 0 : Nat)) := by
  unfold kRow
  rw [List.getElem?_toArray, List.getElem?_map, List.getD_eq_getElem?_getD, List.getElem?_eq_getElem (show i < kTab.length from hi)]
  rfl
theorem k_info : (Try.prog.info? 140).map (·.size) = some kRow.size := by kernel_rfl
theorem k_one : kRow.all (·.oneCell') = true := by kernel_rfl

theorem row_cell (w : World) (t : TypeId) (o KT : Array Value) (i : Nat) : ((w.alloc (.cells o t)).setRow w.heap.size KT).cell? ⟨w.heap.size, i, none⟩ = KT[i]? :=
  cell_of_row _ _ i KT t (0, 0) (setRow_heap _ w.heap.size o KT t (0, 0) (heap_alloc_new w _))
theorem row_below (w : World) (t : TypeId) (o KT : Array Value) : Below w.heap.size w ((w.alloc (.cells o t)).setRow w.heap.size KT) := by
  have h := (Below.refl w.heap.size w).alloc (Nat.le_refl _) (.cells o t)
  refine ⟨h.os, h.tape, h.output, ?_, fun k hk => ?_⟩
  · simp [World.setRow]
  · rw [← h.block k hk]
    simp only [World.setRow]
    rw [Array.getElem?_modify, if_neg (by omega)]

theorem row_grow (w : World) (t : TypeId) (o KT : Array Value) : (w.alloc (.cells o t)).setRow w.heap.size KT = Sort.grow (w.drewN 0) #[.cells KT t] := by
  show _ = Sort.grow w #[.cells KT t]
  rw [← Sort.alloc_eq_grow]
  unfold World.setRow World.alloc
  simp only [World.mk.injEq, and_true, true_and]
  refine Array.ext_getElem? fun k => ?_
  rw [Array.getElem?_modify]
  by_cases hk : w.heap.size = k
  · subst hk
    rw [if_pos rfl]
    simp
  · rw [if_neg hk]
    simp [Array.getElem?_push, Ne.symm hk]
set_option maxRecDepth 20000 in
set_option maxHeartbeats 1000000 in
theorem round_any (i : Nat) (w : World) (hi : i < 64) :
    Calls Try.prog 109 #[.int .i64 i] w fun e w' => e = .returned (.int .u32 (kTab.getD i 0 : Nat)) ∧ ∃ q os', w' = Sort.grow (w.drewN q) os' := by
  have hbd : ∀ w : World, (Instr.build 140 #[(0, .int .u32 1116352408), (1, .int .u32 1899447441), (2, .int .u32 3049323471), (3, .int .u32 3921009573), (4, .int .u32 961987163), (5, .int .u32 1508970993), (6, .int .u32 2453635748), (7, .int .u32 2870763221), (8, .int .u32 3624381080), (9, .int .u32 310598401), (10, .int .u32 607225278), (11, .int .u32 1426881987), (12, .int .u32 1925078388), (13, .int .u32 2162078206), (14, .int .u32 2614888103), (15, .int .u32 3248222580), (16, .int .u32 3835390401), (17, .int .u32 4022224774), (18, .int .u32 264347078), (19, .int .u32 604807628), (20, .int .u32 770255983), (21, .int .u32 1249150122), (22, .int .u32 1555081692), (23, .int .u32 1996064986), (24, .int .u32 2554220882), (25, .int .u32 2821834349), (26, .int .u32 2952996808), (27, .int .u32 3210313671), (28, .int .u32 3336571891), (29, .int .u32 3584528711), (30, .int .u32 113926993), (31, .int .u32 338241895), (32, .int .u32 666307205), (33, .int .u32 773529912), (34, .int .u32 1294757372), (35, .int .u32 1396182291), (36, .int .u32 1695183700), (37, .int .u32 1986661051), (38, .int .u32 2177026350), (39, .int .u32 2456956037), (40, .int .u32 2730485921), (41, .int .u32 2820302411), (42, .int .u32 3259730800), (43, .int .u32 3345764771), (44, .int .u32 3516065817), (45, .int .u32 3600352804), (46, .int .u32 4094571909), (47, .int .u32 275423344), (48, .int .u32 430227734), (49, .int .u32 506948616), (50, .int .u32 659060556), (51, .int .u32 883997877), (52, .int .u32 958139571), (53, .int .u32 1322822218), (54, .int .u32 1537002063), (55, .int .u32 1747873779), (56, .int .u32 1955562222), (57, .int .u32 2024104815), (58, .int .u32 2227730452), (59, .int .u32 2361852424), (60, .int .u32 2428436474), (61, .int .u32 2756734187), (62, .int .u32 3204031479), (63, .int .u32 3329325298)]).run Try.prog w = .ok (.agg kRow) w := fun w => run_build w _ _ _ k_built
  have hinfo := k_info
  have hone := k_one
  have hsz := kRow_size
  have hget := kRow_get i hi
  generalize kTab.getD i 0 = x at *
  generalize kRow = KT at *
  have HI := Lib.hid hinfo
  have HO := Lib.hid hone
  have HS := Lib.hid hsz
  have HG := Lib.hid hget
  have hcell : ∀ o, ((w.alloc (.cells o 140)).setRow w.heap.size KT).cell? ⟨w.heap.size, i, none⟩ = some (.int .u32 (x : Nat)) := fun o => (row_cell w _ o KT i).trans hget
  clear hinfo hone hsz hget
  go_enter Try.func109, Try.ntmps109
  go_wp2_with (first | (refine wpList_built rfl 140 _ rfl _ (.agg KT) ?_ hbd ?_; go_must (simp only [List.map_toArray, List.map_cons, List.map_nil]; rfl)) | (refine wpList_store_row rfl 140 _ _ rfl w.heap.size KT rfl rfl 140 _ (heap_alloc_new w _) HI.out (by rw [HS.out]; rfl) HO.out ?_))
  go_ret
  exact ⟨rfl, 0, _, row_grow _ _ _ _⟩
end Go.Proofs.Ytnhbkfefpkocaaa
