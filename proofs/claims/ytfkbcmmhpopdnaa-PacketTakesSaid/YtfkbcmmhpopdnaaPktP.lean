/-
  Packets: their bytes (packet.Put).
-/
import Derived.Test.YtfkbcmmhpopdnaaPktC
import Derived.Test.YtfkbcmmhpopdnaaShelf
import Derived.Lib.Join
import Derived.Deep.Cut
import Derived.Deep.RegionHeld3
namespace Go.Proofs.Ytfkbcmmhpopdnaa
open Go.RowKit

theorem fixed4 (n : Int) (w : World) : Calls Try.prog 15 #[.int .i64 n, .int .i64 4] w fun e w' => e = .returned (.string (ofL (be n 4))) ∧ Below w.heap.size w w' := fixed_any n 4 w
theorem fixed2 (n : Int) (w : World) : Calls Try.prog 15 #[.int .i64 n, .int .i64 2] w fun e w' => e = .returned (.string (ofL (be n 2))) ∧ Below w.heap.size w w' := fixed_any n 2 w
theorem fixed1 (n : Int) (w : World) : Calls Try.prog 15 #[.int .i64 n, .int .i64 1] w fun e w' => e = .returned (.string (ofL (be n 1))) ∧ Below w.heap.size w w' := fixed_any n 1 w
theorem fixedR4 (n : Int) (w : World) : Calls Try.prog 18 #[.int .i64 n, .int .i64 4] w fun e w' => e = .returned (.string (ofL (be n 4))) ∧ Below w.heap.size w w' := fixedRef_any n 4 w
theorem fixedR2 (n : Int) (w : World) : Calls Try.prog 18 #[.int .i64 n, .int .i64 2] w fun e w' => e = .returned (.string (ofL (be n 2))) ∧ Below w.heap.size w w' := fixedRef_any n 2 w
theorem fixedR1 (n : Int) (w : World) : Calls Try.prog 18 #[.int .i64 n, .int .i64 1] w fun e w' => e = .returned (.string (ofL (be n 1))) ∧ Below w.heap.size w w' := fixedRef_any n 1 w
theorem be4_size (n : Int) : (ofL (be n 4)).size = 4 := by rw [size_ofL, be_length]
theorem be2_size (n : Int) : (ofL (be n 2)).size = 2 := by rw [size_ofL, be_length]
theorem be1_size (n : Int) : (ofL (be n 1)).size = 1 := by rw [size_ofL, be_length]
theorem toList_data (s : ByteArray) : s.data.toList = s.toList := (ByteArray.toList_eq s).symm

/-- Texts, one behind the other. -/
def cat (P : List ByteArray) : List UInt8 := P.flatMap (·.toList)
theorem cat_snoc (P : List ByteArray) (x : ByteArray) : cat (P ++ [x]) = cat P ++ x.toList := by simp [cat]
theorem join_cat (P : List ByteArray) : Lib.join (P.map (·.data.toList)) [] = cat P := by
  cases P with
  | nil => rfl
  | cons x r =>
    rw [List.map_cons, Lib.join_cons]
    unfold cat Lib.joinTail
    simp [toList_data, List.flatMap]
    rfl
theorem cat_len (P : List ByteArray) (h : szB P = true) : (cat P).length = 32 * P.length := by
  induction P with
  | nil => rfl
  | cons x r ih =>
    unfold szB at h ih
    rw [List.all_cons, Bool.and_eq_true] at h
    have h1 := of_decide_eq_true h.1
    have h2 := ih h.2
    unfold cat at h2 ⊢
    rw [List.flatMap_cons, List.length_append, h2, size_toList, h1, List.length_cons]
    omega
theorem sjoin0_any (A : Option Addr) (n c : Nat) (xs : List ByteArray) (w : World) (hx : xs.length = n) (hc : n ≤ c) (hr : Rd w A (xs.map Value.string)) (hn : n ≤ 1000000) (hz : (cat xs).length ≤ 1000000) :
    Calls Try.prog 16 #[.slice A n c, .string ⟨#[]⟩] w fun e w' => e = .returned (.string (ofL (cat xs))) ∧ Below w.heap.size w w' := by
  subst hx
  cases xs with
  | nil =>
    refine (Try.strings_Join_none A c ⟨#[]⟩ w).mono ?_
    rintro e w' ⟨rfl, rfl⟩
    exact ⟨rfl, Below.refl _ _⟩
  | cons y r =>
    obtain ⟨b, o, rfl, hcell⟩ := hr (by simp)
    have h47 : (⟨#[]⟩ : ByteArray).data.toList = [] := rfl
    have h := Try.strings_Join b o c (y :: r) ⟨#[]⟩ w (fun j x hx => hcell j _ (by rw [List.getElem?_map, hx]; rfl)) (World.block_lt_of_cell? w _ (hcell 0 _ rfl)) (by omega) hc (by rw [h47, join_cat]; omega)
    rw [h47, join_cat] at h
    exact h

/-- A packet's bytes, ahead of what its kind has. -/
def pktH (kind fr : Int) : ByteArray := ⟨#[83, 76, 80, 49]⟩ ++ ofL (be kind 1) ++ ofL (be fr 4)
/-- A packet's bytes. -/
def pktS (kind fr seq id i n : Int) (text : ByteArray) (P : List ByteArray) : ByteArray :=
  if kind = 1 then pktH kind fr ++ text
  else if kind = 2 then pktH kind fr ++ ofL (be id 4) ++ ofL (be i 2) ++ text ++ ofL (be (P.length : Int) 1) ++ ofL (cat P)
  else if kind = 3 then pktH kind fr ++ ofL (be seq 4) ++ ofL (be id 4) ++ ofL (be i 2) ++ ofL (be n 2) ++ text
  else pktH kind fr ++ ofL (be seq 4) ++ ofL (be id 4) ++ text
/-- What Put tells: the bytes, and an error. -/
def PutEnd (w : World) (s : ByteArray) (k : Int) (e : Ending) (w' : World) : Prop := e = .returned (.tuple #[.string s, .int .i64 k]) ∧ Below w.heap.size w w'
theorem ok_proof {kind fr seq id i n : Int} {text : ByteArray} {P : List ByteArray} (h : pktOk kind fr seq id i n text P = true) : P.length ≤ 8 ∧ (cat P).length ≤ 256 := by
  have nil : P.length = 0 → P.length ≤ 8 ∧ (cat P).length ≤ 256 := fun h => by
    have : P = [] := List.eq_nil_of_length_eq_zero h
    subst this; exact ⟨by simp, by simp [cat]⟩
  unfold pktOk at h
  rw [Bool.and_eq_true] at h
  obtain ⟨_, h⟩ := h
  split at h
  · exact nil (of_decide_eq_true h).2.2.2.2.2
  · rw [Bool.and_eq_true] at h
    obtain ⟨_, h⟩ := h
    split at h
    · have h' := of_decide_eq_true h
      obtain ⟨_, _, _, _, _, h1, h2⟩ := h'
      refine ⟨h1, ?_⟩
      rw [cat_len P h2]; omega
    · split at h
      · exact nil (of_decide_eq_true h).2.2.2.2
      · exact nil (of_decide_eq_true h).2.2.2.1

/-- What a packet's block, and its proof, hold while its bytes are laid. -/
def PHeld (w1 : World) (g : Nat) (kind fr seq id i n : Int) (text : ByteArray) (A : Option Addr) (pn pc : Nat) (P : List ByteArray) (w' : World) : Prop :=
  Below w1.heap.size w1 w' ∧ w'.cell? ⟨g, 0, none⟩ = some (.int .i64 kind) ∧ w'.cell? ⟨g, 1, none⟩ = some (.int .i64 fr) ∧ w'.cell? ⟨g, 2, none⟩ = some (.int .i64 seq) ∧ w'.cell? ⟨g, 3, none⟩ = some (.int .i64 id) ∧ w'.cell? ⟨g, 4, none⟩ = some (.int .i64 i) ∧ w'.cell? ⟨g, 5, none⟩ = some (.int .i64 n) ∧ w'.cell? ⟨g, 6, none⟩ = some (.string text) ∧ w'.cell? ⟨g, 7, none⟩ = some (.slice A pn pc) ∧ Rd w' A (P.map Value.string)
theorem PHeld.step {w1 w w' : World} {g : Nat} {kind fr seq id i n : Int} {text : ByteArray} {A : Option Addr} {pn pc : Nat} {P : List ByteArray} (h : PHeld w1 g kind fr seq id i n text A pn pc P w) (hb : Below w.heap.size w w') : PHeld w1 g kind fr seq id i n text A pn pc P w' := by
  have k : ∀ {a : Addr} {v : Value}, w.cell? a = some v → w'.cell? a = some v := fun h => (hb.cell (World.block_lt_of_cell? w _ h)).trans h
  obtain ⟨h, h0, h1, h2, h3, h4, h5, h6, h7, h8⟩ := h
  exact ⟨bl h hb, k h0, k h1, k h2, k h3, k h4, k h5, k h6, k h7, h8.below hb⟩
theorem PHeld.drew {w1 w : World} {g : Nat} {kind fr seq id i n : Int} {text : ByteArray} {A : Option Addr} {pn pc : Nat} {P : List ByteArray} (h : PHeld w1 g kind fr seq id i n text A pn pc P w) : PHeld w1 g kind fr seq id i n text A pn pc P w.drew :=
  h.step (Below.refl _ _).drew
theorem PHeld.mk_ {w : World} {g : Nat} {kind fr seq id i n : Int} {text : ByteArray} {A : Option Addr} {pn pc : Nat} {P : List ByteArray} (hG : Bk w g 24 #[.int .i64 kind, .int .i64 fr, .int .i64 seq, .int .i64 id, .int .i64 i, .int .i64 n, .string text, .slice A pn pc]) (hr : Rd w A (P.map Value.string)) :
    PHeld w g kind fr seq id i n text A pn pc P w :=
  ⟨Below.refl _ _, hG.cell 0, hG.cell 1, hG.cell 2, hG.cell 3, hG.cell 4, hG.cell 5, hG.cell 6, hG.cell 7, hr⟩
theorem held9 {wr w w1 : World} (hb : Below w.heap.size w w1) {a0 a1 a2 a3 a4 a5 a6 a7 : Addr} {v0 v1 v2 v3 v4 v5 v6 v7 : Value} {A : Option Addr} {xs : List Value}
    (h : Below wr.heap.size wr w ∧ w.cell? a0 = some v0 ∧ w.cell? a1 = some v1 ∧ w.cell? a2 = some v2 ∧ w.cell? a3 = some v3 ∧ w.cell? a4 = some v4 ∧ w.cell? a5 = some v5 ∧ w.cell? a6 = some v6 ∧ w.cell? a7 = some v7 ∧ Rd w A xs) :
    Below wr.heap.size wr w1 ∧ w1.cell? a0 = some v0 ∧ w1.cell? a1 = some v1 ∧ w1.cell? a2 = some v2 ∧ w1.cell? a3 = some v3 ∧ w1.cell? a4 = some v4 ∧ w1.cell? a5 = some v5 ∧ w1.cell? a6 = some v6 ∧ w1.cell? a7 = some v7 ∧ Rd w1 A xs := by
  have k : ∀ {a : Addr} {v : Value}, w.cell? a = some v → w1.cell? a = some v := fun h => (hb.cell (World.block_lt_of_cell? w _ h)).trans h
  obtain ⟨h, h0, h1, h2, h3, h4, h5, h6, h7, h8⟩ := h
  exact ⟨bl h hb, k h0, k h1, k h2, k h3, k h4, k h5, k h6, k h7, h8.below hb⟩
theorem rd_of9 {wr w : World} {a0 a1 a2 a3 a4 a5 a6 a7 : Addr} {v0 v1 v2 v3 v4 v5 v6 v7 : Value} {A : Option Addr} {xs : List Value}
    (h : Below wr.heap.size wr w ∧ w.cell? a0 = some v0 ∧ w.cell? a1 = some v1 ∧ w.cell? a2 = some v2 ∧ w.cell? a3 = some v3 ∧ w.cell? a4 = some v4 ∧ w.cell? a5 = some v5 ∧ w.cell? a6 = some v6 ∧ w.cell? a7 = some v7 ∧ Rd w A xs) : Rd w A xs := h.2.2.2.2.2.2.2.2.2
theorem pmay_true {kind fr seq id i n : Int} {text : ByteArray} {P : List ByteArray} : okE true = 0 := rfl

set_option maxRecDepth 20000 in
theorem pput_bad (kind fr seq id i n : Int) (text : ByteArray) (A : Option Addr) (pn pc : Nat) (P : List ByteArray) (w : World) (hb : pktOk kind fr seq id i n text P = false) (hP : P.length = pn) (hr : Rd w A (P.map Value.string)) (ht : text.size ≤ 9223372036854775807) (hn : pn ≤ 9223372036854775807) :
    Calls Try.prog 9 #[.agg #[.int .i64 kind, .int .i64 fr, .int .i64 seq, .int .i64 id, .int .i64 i, .int .i64 n, .string text, .slice A pn pc]] w (PutEnd w ⟨#[]⟩ 1) := by
  have Hb := Lib.hid hb
  have HP := Lib.hid hP
  clear hb hP
  have hB := (Below.refl w.heap.size w).alloc (Nat.le_refl _) (.cells #[.int .i64 kind, .int .i64 fr, .int .i64 seq, .int .i64 id, .int .i64 i, .int .i64 n, .string text, .slice A pn pc] 24)
  have hr0 := hr.below hB
  clear hr
  go_enter Try.func9, Try.ntmps9
  go_wp2_with fail
  (with_reducible refine (pcheck_any kind fr seq id i n text A pn pc P false _ Hb.out HP.out hr0 ht hn).mono ?_)
  rintro e w1 ⟨rfl, hb1⟩
  have hok : okE false = 1 := rfl
  rw [hok]
  clear hok
  go_wp2_with fail
  go_ret2
  exact ⟨rfl, bl hB hb1⟩

set_option maxRecDepth 20000 in
set_option maxHeartbeats 4000000 in
theorem pput_1 (fr seq id i n : Int) (text : ByteArray) (A : Option Addr) (pn pc : Nat) (P : List ByteArray) (w : World) (hb : pktOk 1 fr seq id i n text P = true) (hP : P.length = pn) (hpc : pn ≤ pc) (hr : Rd w A (P.map Value.string)) (ht : text.size ≤ 1000) (hn : pn ≤ 9223372036854775807) :
    Calls Try.prog 9 #[.agg #[.int .i64 1, .int .i64 fr, .int .i64 seq, .int .i64 id, .int .i64 i, .int .i64 n, .string text, .slice A pn pc]] w (PutEnd w (pktS 1 fr seq id i n text P) 0) := by
  have Hb := Lib.hid hb
  have HP := Lib.hid hP
  have hpl := ok_proof hb
  rw [hP] at hpl
  have hpl1 := hpl.1
  have hpl2 := hpl.2
  clear hb hP hpl
  obtain ⟨S, hS⟩ : ∃ S, pktS 1 fr seq id i n text P = S := ⟨_, rfl⟩
  rw [hS]
  have zt1 := be1_size 1
  have zt4 := be4_size fr
  have z0 : (⟨#[83, 76, 80, 49]⟩ : ByteArray).size = 4 := rfl
  obtain ⟨c1, ec1⟩ : ∃ c, (⟨#[83, 76, 80, 49]⟩ : ByteArray) ++ ofL (be 1 1) = c := ⟨_, rfl⟩
  have kc1 : c1.size ≤ 5 := by rw [← ec1, ByteArray.size_append]; omega
  have mc1 : ¬ (9223372036854775807 < ((⟨#[83, 76, 80, 49]⟩ : ByteArray)).size + (ofL (be 1 1)).size) := by omega
  obtain ⟨c2, ec2⟩ : ∃ c, c1 ++ ofL (be fr 4) = c := ⟨_, rfl⟩
  have kc2 : c2.size ≤ 9 := by rw [← ec2, ByteArray.size_append]; omega
  have mc2 : ¬ (9223372036854775807 < (c1).size + (ofL (be fr 4)).size) := by omega
  have mc1b : ¬ (9223372036854775807 < 4 + (ofL (be 1 1)).size) := by omega
  obtain ⟨d1, ed1⟩ : ∃ c, c2 ++ text = c := ⟨_, rfl⟩
  have kd1 : d1.size ≤ 1009 := by rw [← ed1, ByteArray.size_append]; omega
  have md1 : ¬ (9223372036854775807 < (c2).size + (text).size) := by omega
  have E := Lib.hid (show S = d1 by rw [← hS, pktS, if_pos rfl, pktH, ec1, ec2, ed1])
  clear z0 zt1 zt4 kc1 kc2 kd1 hS
  have hB := (Below.refl w.heap.size w).alloc (Nat.le_refl _) (.cells #[.int .i64 1, .int .i64 fr, .int .i64 seq, .int .i64 id, .int .i64 i, .int .i64 n, .string text, .slice A pn pc] 24)
  have hG : Bk (w.alloc (.cells #[.int .i64 1, .int .i64 fr, .int .i64 seq, .int .i64 id, .int .i64 i, .int .i64 n, .string text, .slice A pn pc] 24)) w.heap.size 24 #[.int .i64 1, .int .i64 fr, .int .i64 seq, .int .i64 id, .int .i64 i, .int .i64 n, .string text, .slice A pn pc] := Bk.new _ _ _
  have hr0 := hr.below hB
  clear hr
  go_enter Try.func9, Try.ntmps9
  go_wp2_with fail
  (with_reducible refine (pcheck_any 1 fr seq id i n text A pn pc P true _ Hb.out HP.out hr0 (by omega) hn).mono ?_)
  rintro e w1 ⟨rfl, hb1⟩
  have hB1 := bl hB hb1
  have hG1 := PHeld.mk_ (hG.below' hb1) (hr0.below hb1)
  clear hB hG hr0 hb1
  have hok : okE true = 0 := rfl
  rw [hok]
  clear hok
  have hG1' := hG1
  obtain ⟨hx1, g0, g1, g2, g3, g4, g5, g6, g7, hx2⟩ := hG1'
  clear hx1 hx2
  go_upto_region 4 with (fail)
  clear g0 g1 g2 g3 g4 g5 g6 g7
  have hcw := PHeld.drew hG1
  unfold PHeld at hcw
  go_region_held3 (fun w' => Below w1.heap.size w1 w' ∧ w'.cell? ⟨w.heap.size, 0, none⟩ = some (.int .i64 1) ∧ w'.cell? ⟨w.heap.size, 1, none⟩ = some (.int .i64 fr) ∧ w'.cell? ⟨w.heap.size, 2, none⟩ = some (.int .i64 seq) ∧ w'.cell? ⟨w.heap.size, 3, none⟩ = some (.int .i64 id) ∧ w'.cell? ⟨w.heap.size, 4, none⟩ = some (.int .i64 i) ∧ w'.cell? ⟨w.heap.size, 5, none⟩ = some (.int .i64 n) ∧ w'.cell? ⟨w.heap.size, 6, none⟩ = some (.string text) ∧ w'.cell? ⟨w.heap.size, 7, none⟩ = some (.slice A pn pc) ∧ Rd w' A (P.map Value.string)) (first | exact hcw | assumption)
    (first
      | (go_at_call 15; with_reducible refine (fixed4 _ _).mono ?_; rintro e w3 ⟨rfl, hb3⟩; have hX := held9 hb3 (by assumption))
      | (go_at_call 15; with_reducible refine (fixed2 _ _).mono ?_; rintro e w3 ⟨rfl, hb3⟩; have hX := held9 hb3 (by assumption))
      | (go_at_call 15; with_reducible refine (fixed1 _ _).mono ?_; rintro e w3 ⟨rfl, hb3⟩; have hX := held9 hb3 (by assumption)))
  go_wp2_with fail
  go_ret2
  exact ⟨by rw [E.out]; rfl, bl hB1 (And.left (by assumption))⟩

set_option maxRecDepth 20000 in
set_option maxHeartbeats 4000000 in
theorem pput_2 (fr seq id i n : Int) (text : ByteArray) (A : Option Addr) (pn pc : Nat) (P : List ByteArray) (w : World) (hb : pktOk 2 fr seq id i n text P = true) (hP : P.length = pn) (hpc : pn ≤ pc) (hr : Rd w A (P.map Value.string)) (ht : text.size ≤ 1000) (hn : pn ≤ 9223372036854775807) :
    Calls Try.prog 9 #[.agg #[.int .i64 2, .int .i64 fr, .int .i64 seq, .int .i64 id, .int .i64 i, .int .i64 n, .string text, .slice A pn pc]] w (PutEnd w (pktS 2 fr seq id i n text P) 0) := by
  have Hb := Lib.hid hb
  have HP := Lib.hid hP
  have hpl := ok_proof hb
  rw [hP] at hpl
  have hpl1 := hpl.1
  have hpl2 := hpl.2
  clear hb hP hpl
  obtain ⟨S, hS⟩ : ∃ S, pktS 2 fr seq id i n text P = S := ⟨_, rfl⟩
  rw [hS]
  have zt1 := be1_size 2
  have zt4 := be4_size fr
  have z0 : (⟨#[83, 76, 80, 49]⟩ : ByteArray).size = 4 := rfl
  obtain ⟨c1, ec1⟩ : ∃ c, (⟨#[83, 76, 80, 49]⟩ : ByteArray) ++ ofL (be 2 1) = c := ⟨_, rfl⟩
  have kc1 : c1.size ≤ 5 := by rw [← ec1, ByteArray.size_append]; omega
  have mc1 : ¬ (9223372036854775807 < ((⟨#[83, 76, 80, 49]⟩ : ByteArray)).size + (ofL (be 2 1)).size) := by omega
  obtain ⟨c2, ec2⟩ : ∃ c, c1 ++ ofL (be fr 4) = c := ⟨_, rfl⟩
  have kc2 : c2.size ≤ 9 := by rw [← ec2, ByteArray.size_append]; omega
  have mc2 : ¬ (9223372036854775807 < (c1).size + (ofL (be fr 4)).size) := by omega
  have mc1b : ¬ (9223372036854775807 < 4 + (ofL (be 2 1)).size) := by omega
  have zi := be4_size id
  have zj := be2_size i
  have zp := be1_size (pn : Int)
  have zc : (ofL (cat P)).size ≤ 256 := by rw [size_ofL]; exact hpl2
  obtain ⟨d1, ed1⟩ : ∃ c, c2 ++ ofL (be id 4) = c := ⟨_, rfl⟩
  have kd1 : d1.size ≤ 13 := by rw [← ed1, ByteArray.size_append]; omega
  have md1 : ¬ (9223372036854775807 < (c2).size + (ofL (be id 4)).size) := by omega
  obtain ⟨d2, ed2⟩ : ∃ c, d1 ++ ofL (be i 2) = c := ⟨_, rfl⟩
  have kd2 : d2.size ≤ 15 := by rw [← ed2, ByteArray.size_append]; omega
  have md2 : ¬ (9223372036854775807 < (d1).size + (ofL (be i 2)).size) := by omega
  obtain ⟨d3, ed3⟩ : ∃ c, d2 ++ text = c := ⟨_, rfl⟩
  have kd3 : d3.size ≤ 1015 := by rw [← ed3, ByteArray.size_append]; omega
  have md3 : ¬ (9223372036854775807 < (d2).size + (text).size) := by omega
  obtain ⟨d4, ed4⟩ : ∃ c, d3 ++ ofL (be (pn : Int) 1) = c := ⟨_, rfl⟩
  have kd4 : d4.size ≤ 1016 := by rw [← ed4, ByteArray.size_append]; omega
  have md4 : ¬ (9223372036854775807 < (d3).size + (ofL (be (pn : Int) 1)).size) := by omega
  obtain ⟨d5, ed5⟩ : ∃ c, d4 ++ ofL (cat P) = c := ⟨_, rfl⟩
  have kd5 : d5.size ≤ 1272 := by rw [← ed5, ByteArray.size_append]; omega
  have md5 : ¬ (9223372036854775807 < (d4).size + (ofL (cat P)).size) := by omega
  have E := Lib.hid (show S = d5 by rw [← hS, pktS, if_neg (by decide), if_pos rfl, HP.out, pktH, ec1, ec2, ed1, ed2, ed3, ed4, ed5])
  clear z0 zt1 zt4 kc1 kc2 kd1 kd2 kd3 kd4 kd5 zi zj zp zc hS
  have hB := (Below.refl w.heap.size w).alloc (Nat.le_refl _) (.cells #[.int .i64 2, .int .i64 fr, .int .i64 seq, .int .i64 id, .int .i64 i, .int .i64 n, .string text, .slice A pn pc] 24)
  have hG : Bk (w.alloc (.cells #[.int .i64 2, .int .i64 fr, .int .i64 seq, .int .i64 id, .int .i64 i, .int .i64 n, .string text, .slice A pn pc] 24)) w.heap.size 24 #[.int .i64 2, .int .i64 fr, .int .i64 seq, .int .i64 id, .int .i64 i, .int .i64 n, .string text, .slice A pn pc] := Bk.new _ _ _
  have hr0 := hr.below hB
  clear hr
  go_enter Try.func9, Try.ntmps9
  go_wp2_with fail
  (with_reducible refine (pcheck_any 2 fr seq id i n text A pn pc P true _ Hb.out HP.out hr0 (by omega) hn).mono ?_)
  rintro e w1 ⟨rfl, hb1⟩
  have hB1 := bl hB hb1
  have hG1 := PHeld.mk_ (hG.below' hb1) (hr0.below hb1)
  clear hB hG hr0 hb1
  have hok : okE true = 0 := rfl
  rw [hok]
  clear hok
  have hG1' := hG1
  obtain ⟨hx1, g0, g1, g2, g3, g4, g5, g6, g7, hx2⟩ := hG1'
  clear hx1 hx2
  go_upto_region 4 with (fail)
  clear g0 g1 g2 g3 g4 g5 g6 g7
  have hcw := PHeld.drew hG1
  unfold PHeld at hcw
  go_region_held3 (fun w' => Below w1.heap.size w1 w' ∧ w'.cell? ⟨w.heap.size, 0, none⟩ = some (.int .i64 2) ∧ w'.cell? ⟨w.heap.size, 1, none⟩ = some (.int .i64 fr) ∧ w'.cell? ⟨w.heap.size, 2, none⟩ = some (.int .i64 seq) ∧ w'.cell? ⟨w.heap.size, 3, none⟩ = some (.int .i64 id) ∧ w'.cell? ⟨w.heap.size, 4, none⟩ = some (.int .i64 i) ∧ w'.cell? ⟨w.heap.size, 5, none⟩ = some (.int .i64 n) ∧ w'.cell? ⟨w.heap.size, 6, none⟩ = some (.string text) ∧ w'.cell? ⟨w.heap.size, 7, none⟩ = some (.slice A pn pc) ∧ Rd w' A (P.map Value.string)) (first | exact hcw | assumption)
    (first
      | (go_at_call 15; with_reducible refine (fixed4 _ _).mono ?_; rintro e w3 ⟨rfl, hb3⟩; have hX := held9 hb3 (by assumption))
      | (go_at_call 15; with_reducible refine (fixed2 _ _).mono ?_; rintro e w3 ⟨rfl, hb3⟩; have hX := held9 hb3 (by assumption))
      | (go_at_call 15; with_reducible refine (fixed1 _ _).mono ?_; rintro e w3 ⟨rfl, hb3⟩; have hX := held9 hb3 (by assumption)))
  have hq := hX
  clear hcw hG1 hb3 hX
  obtain ⟨wq, rfl⟩ : ∃ wq : World, wq = w3 := ⟨_, rfl⟩
  have hB2 := bl hB1 hq.1
  have hcw : PHeld wq w.heap.size 2 fr seq id i n text A pn pc P wq := ⟨Below.refl _ _, hq.2⟩
  obtain ⟨hx1, g0, g1, g2, g3, g4, g5, g6, g7, hx2⟩ := hq
  clear hx1 hx2 hB1
  go_upto_region 9 with (fail)
  clear g0 g1 g2 g3 g4 g5 g6 g7
  have hcw := PHeld.drew hcw
  unfold PHeld at hcw
  go_region_held3 (fun w' => Below wq.heap.size wq w' ∧ w'.cell? ⟨w.heap.size, 0, none⟩ = some (.int .i64 2) ∧ w'.cell? ⟨w.heap.size, 1, none⟩ = some (.int .i64 fr) ∧ w'.cell? ⟨w.heap.size, 2, none⟩ = some (.int .i64 seq) ∧ w'.cell? ⟨w.heap.size, 3, none⟩ = some (.int .i64 id) ∧ w'.cell? ⟨w.heap.size, 4, none⟩ = some (.int .i64 i) ∧ w'.cell? ⟨w.heap.size, 5, none⟩ = some (.int .i64 n) ∧ w'.cell? ⟨w.heap.size, 6, none⟩ = some (.string text) ∧ w'.cell? ⟨w.heap.size, 7, none⟩ = some (.slice A pn pc) ∧ Rd w' A (P.map Value.string)) (first | exact hcw | assumption)
    (first
      | (go_at_call 15; with_reducible refine (fixed4 _ _).mono ?_; rintro e w3 ⟨rfl, hb3⟩; have hX := held9 hb3 (by assumption))
      | (go_at_call 15; with_reducible refine (fixed2 _ _).mono ?_; rintro e w3 ⟨rfl, hb3⟩; have hX := held9 hb3 (by assumption))
      | (go_at_call 15; with_reducible refine (fixed1 _ _).mono ?_; rintro e w3 ⟨rfl, hb3⟩; have hX := held9 hb3 (by assumption))
      | (go_at_call 16; with_reducible refine (sjoin0_any A pn pc P _ HP.out hpc (rd_of9 (by assumption)) (by omega) (by omega)).mono ?_; rintro e w3 ⟨rfl, hb3⟩; have hX := held9 hb3 (by assumption)))
  have hB3 := bl hB2 hX.1
  clear hcw hX hb3
  go_wp2_with fail
  go_ret2
  exact ⟨by rw [E.out]; rfl, hB3⟩

set_option maxRecDepth 20000 in
set_option maxHeartbeats 4000000 in
theorem pput_3 (fr seq id i n : Int) (text : ByteArray) (A : Option Addr) (pn pc : Nat) (P : List ByteArray) (w : World) (hb : pktOk 3 fr seq id i n text P = true) (hP : P.length = pn) (hpc : pn ≤ pc) (hr : Rd w A (P.map Value.string)) (ht : text.size ≤ 1000) (hn : pn ≤ 9223372036854775807) :
    Calls Try.prog 9 #[.agg #[.int .i64 3, .int .i64 fr, .int .i64 seq, .int .i64 id, .int .i64 i, .int .i64 n, .string text, .slice A pn pc]] w (PutEnd w (pktS 3 fr seq id i n text P) 0) := by
  have Hb := Lib.hid hb
  have HP := Lib.hid hP
  have hpl := ok_proof hb
  rw [hP] at hpl
  have hpl1 := hpl.1
  have hpl2 := hpl.2
  clear hb hP hpl
  obtain ⟨S, hS⟩ : ∃ S, pktS 3 fr seq id i n text P = S := ⟨_, rfl⟩
  rw [hS]
  have zt1 := be1_size 3
  have zt4 := be4_size fr
  have z0 : (⟨#[83, 76, 80, 49]⟩ : ByteArray).size = 4 := rfl
  obtain ⟨c1, ec1⟩ : ∃ c, (⟨#[83, 76, 80, 49]⟩ : ByteArray) ++ ofL (be 3 1) = c := ⟨_, rfl⟩
  have kc1 : c1.size ≤ 5 := by rw [← ec1, ByteArray.size_append]; omega
  have mc1 : ¬ (9223372036854775807 < ((⟨#[83, 76, 80, 49]⟩ : ByteArray)).size + (ofL (be 3 1)).size) := by omega
  obtain ⟨c2, ec2⟩ : ∃ c, c1 ++ ofL (be fr 4) = c := ⟨_, rfl⟩
  have kc2 : c2.size ≤ 9 := by rw [← ec2, ByteArray.size_append]; omega
  have mc2 : ¬ (9223372036854775807 < (c1).size + (ofL (be fr 4)).size) := by omega
  have mc1b : ¬ (9223372036854775807 < 4 + (ofL (be 3 1)).size) := by omega
  have zs := be4_size seq
  have zi := be4_size id
  have zj := be2_size i
  have zn := be2_size n
  obtain ⟨d1, ed1⟩ : ∃ c, c2 ++ ofL (be seq 4) = c := ⟨_, rfl⟩
  have kd1 : d1.size ≤ 13 := by rw [← ed1, ByteArray.size_append]; omega
  have md1 : ¬ (9223372036854775807 < (c2).size + (ofL (be seq 4)).size) := by omega
  obtain ⟨d2, ed2⟩ : ∃ c, d1 ++ ofL (be id 4) = c := ⟨_, rfl⟩
  have kd2 : d2.size ≤ 17 := by rw [← ed2, ByteArray.size_append]; omega
  have md2 : ¬ (9223372036854775807 < (d1).size + (ofL (be id 4)).size) := by omega
  obtain ⟨d3, ed3⟩ : ∃ c, d2 ++ ofL (be i 2) = c := ⟨_, rfl⟩
  have kd3 : d3.size ≤ 19 := by rw [← ed3, ByteArray.size_append]; omega
  have md3 : ¬ (9223372036854775807 < (d2).size + (ofL (be i 2)).size) := by omega
  obtain ⟨d4, ed4⟩ : ∃ c, d3 ++ ofL (be n 2) = c := ⟨_, rfl⟩
  have kd4 : d4.size ≤ 21 := by rw [← ed4, ByteArray.size_append]; omega
  have md4 : ¬ (9223372036854775807 < (d3).size + (ofL (be n 2)).size) := by omega
  obtain ⟨d5, ed5⟩ : ∃ c, d4 ++ text = c := ⟨_, rfl⟩
  have kd5 : d5.size ≤ 1021 := by rw [← ed5, ByteArray.size_append]; omega
  have md5 : ¬ (9223372036854775807 < (d4).size + (text).size) := by omega
  have E := Lib.hid (show S = d5 by rw [← hS, pktS, if_neg (by decide), if_neg (by decide), if_pos rfl, pktH, ec1, ec2, ed1, ed2, ed3, ed4, ed5])
  clear z0 zt1 zt4 kc1 kc2 kd1 kd2 kd3 kd4 kd5 zs zi zj zn hS
  have hB := (Below.refl w.heap.size w).alloc (Nat.le_refl _) (.cells #[.int .i64 3, .int .i64 fr, .int .i64 seq, .int .i64 id, .int .i64 i, .int .i64 n, .string text, .slice A pn pc] 24)
  have hG : Bk (w.alloc (.cells #[.int .i64 3, .int .i64 fr, .int .i64 seq, .int .i64 id, .int .i64 i, .int .i64 n, .string text, .slice A pn pc] 24)) w.heap.size 24 #[.int .i64 3, .int .i64 fr, .int .i64 seq, .int .i64 id, .int .i64 i, .int .i64 n, .string text, .slice A pn pc] := Bk.new _ _ _
  have hr0 := hr.below hB
  clear hr
  go_enter Try.func9, Try.ntmps9
  go_wp2_with fail
  (with_reducible refine (pcheck_any 3 fr seq id i n text A pn pc P true _ Hb.out HP.out hr0 (by omega) hn).mono ?_)
  rintro e w1 ⟨rfl, hb1⟩
  have hB1 := bl hB hb1
  have hG1 := PHeld.mk_ (hG.below' hb1) (hr0.below hb1)
  clear hB hG hr0 hb1
  have hok : okE true = 0 := rfl
  rw [hok]
  clear hok
  have hG1' := hG1
  obtain ⟨hx1, g0, g1, g2, g3, g4, g5, g6, g7, hx2⟩ := hG1'
  clear hx1 hx2
  go_upto_region 4 with (fail)
  clear g0 g1 g2 g3 g4 g5 g6 g7
  have hcw := PHeld.drew hG1
  unfold PHeld at hcw
  go_region_held3 (fun w' => Below w1.heap.size w1 w' ∧ w'.cell? ⟨w.heap.size, 0, none⟩ = some (.int .i64 3) ∧ w'.cell? ⟨w.heap.size, 1, none⟩ = some (.int .i64 fr) ∧ w'.cell? ⟨w.heap.size, 2, none⟩ = some (.int .i64 seq) ∧ w'.cell? ⟨w.heap.size, 3, none⟩ = some (.int .i64 id) ∧ w'.cell? ⟨w.heap.size, 4, none⟩ = some (.int .i64 i) ∧ w'.cell? ⟨w.heap.size, 5, none⟩ = some (.int .i64 n) ∧ w'.cell? ⟨w.heap.size, 6, none⟩ = some (.string text) ∧ w'.cell? ⟨w.heap.size, 7, none⟩ = some (.slice A pn pc) ∧ Rd w' A (P.map Value.string)) (first | exact hcw | assumption)
    (first
      | (go_at_call 15; with_reducible refine (fixed4 _ _).mono ?_; rintro e w3 ⟨rfl, hb3⟩; have hX := held9 hb3 (by assumption))
      | (go_at_call 15; with_reducible refine (fixed2 _ _).mono ?_; rintro e w3 ⟨rfl, hb3⟩; have hX := held9 hb3 (by assumption))
      | (go_at_call 15; with_reducible refine (fixed1 _ _).mono ?_; rintro e w3 ⟨rfl, hb3⟩; have hX := held9 hb3 (by assumption)))
  have hq := hX
  clear hcw hG1 hb3 hX
  obtain ⟨wq, rfl⟩ : ∃ wq : World, wq = w3 := ⟨_, rfl⟩
  have hB2 := bl hB1 hq.1
  have hcw : PHeld wq w.heap.size 3 fr seq id i n text A pn pc P wq := ⟨Below.refl _ _, hq.2⟩
  obtain ⟨hx1, g0, g1, g2, g3, g4, g5, g6, g7, hx2⟩ := hq
  clear hx1 hx2 hB1
  go_upto_region 11 with (fail)
  clear g0 g1 g2 g3 g4 g5 g6 g7
  have hcw := PHeld.drew hcw
  unfold PHeld at hcw
  go_region_held3 (fun w' => Below wq.heap.size wq w' ∧ w'.cell? ⟨w.heap.size, 0, none⟩ = some (.int .i64 3) ∧ w'.cell? ⟨w.heap.size, 1, none⟩ = some (.int .i64 fr) ∧ w'.cell? ⟨w.heap.size, 2, none⟩ = some (.int .i64 seq) ∧ w'.cell? ⟨w.heap.size, 3, none⟩ = some (.int .i64 id) ∧ w'.cell? ⟨w.heap.size, 4, none⟩ = some (.int .i64 i) ∧ w'.cell? ⟨w.heap.size, 5, none⟩ = some (.int .i64 n) ∧ w'.cell? ⟨w.heap.size, 6, none⟩ = some (.string text) ∧ w'.cell? ⟨w.heap.size, 7, none⟩ = some (.slice A pn pc) ∧ Rd w' A (P.map Value.string)) (first | exact hcw | assumption)
    (first
      | (go_at_call 15; with_reducible refine (fixed4 _ _).mono ?_; rintro e w3 ⟨rfl, hb3⟩; have hX := held9 hb3 (by assumption))
      | (go_at_call 15; with_reducible refine (fixed2 _ _).mono ?_; rintro e w3 ⟨rfl, hb3⟩; have hX := held9 hb3 (by assumption))
      | (go_at_call 15; with_reducible refine (fixed1 _ _).mono ?_; rintro e w3 ⟨rfl, hb3⟩; have hX := held9 hb3 (by assumption)))
  have hB3 := bl hB2 hX.1
  clear hcw hX hb3
  go_wp2_with fail
  go_ret2
  exact ⟨by rw [E.out]; rfl, hB3⟩

set_option maxRecDepth 20000 in
set_option maxHeartbeats 4000000 in
theorem pput_4 (fr seq id i n : Int) (text : ByteArray) (A : Option Addr) (pn pc : Nat) (P : List ByteArray) (w : World) (hb : pktOk 4 fr seq id i n text P = true) (hP : P.length = pn) (hpc : pn ≤ pc) (hr : Rd w A (P.map Value.string)) (ht : text.size ≤ 1000) (hn : pn ≤ 9223372036854775807) :
    Calls Try.prog 9 #[.agg #[.int .i64 4, .int .i64 fr, .int .i64 seq, .int .i64 id, .int .i64 i, .int .i64 n, .string text, .slice A pn pc]] w (PutEnd w (pktS 4 fr seq id i n text P) 0) := by
  have Hb := Lib.hid hb
  have HP := Lib.hid hP
  have hpl := ok_proof hb
  rw [hP] at hpl
  have hpl1 := hpl.1
  have hpl2 := hpl.2
  clear hb hP hpl
  obtain ⟨S, hS⟩ : ∃ S, pktS 4 fr seq id i n text P = S := ⟨_, rfl⟩
  rw [hS]
  have zt1 := be1_size 4
  have zt4 := be4_size fr
  have z0 : (⟨#[83, 76, 80, 49]⟩ : ByteArray).size = 4 := rfl
  obtain ⟨c1, ec1⟩ : ∃ c, (⟨#[83, 76, 80, 49]⟩ : ByteArray) ++ ofL (be 4 1) = c := ⟨_, rfl⟩
  have kc1 : c1.size ≤ 5 := by rw [← ec1, ByteArray.size_append]; omega
  have mc1 : ¬ (9223372036854775807 < ((⟨#[83, 76, 80, 49]⟩ : ByteArray)).size + (ofL (be 4 1)).size) := by omega
  obtain ⟨c2, ec2⟩ : ∃ c, c1 ++ ofL (be fr 4) = c := ⟨_, rfl⟩
  have kc2 : c2.size ≤ 9 := by rw [← ec2, ByteArray.size_append]; omega
  have mc2 : ¬ (9223372036854775807 < (c1).size + (ofL (be fr 4)).size) := by omega
  have mc1b : ¬ (9223372036854775807 < 4 + (ofL (be 4 1)).size) := by omega
  have zs := be4_size seq
  have zi := be4_size id
  obtain ⟨d1, ed1⟩ : ∃ c, c2 ++ ofL (be seq 4) = c := ⟨_, rfl⟩
  have kd1 : d1.size ≤ 13 := by rw [← ed1, ByteArray.size_append]; omega
  have md1 : ¬ (9223372036854775807 < (c2).size + (ofL (be seq 4)).size) := by omega
  obtain ⟨d2, ed2⟩ : ∃ c, d1 ++ ofL (be id 4) = c := ⟨_, rfl⟩
  have kd2 : d2.size ≤ 17 := by rw [← ed2, ByteArray.size_append]; omega
  have md2 : ¬ (9223372036854775807 < (d1).size + (ofL (be id 4)).size) := by omega
  obtain ⟨d3, ed3⟩ : ∃ c, d2 ++ text = c := ⟨_, rfl⟩
  have kd3 : d3.size ≤ 1017 := by rw [← ed3, ByteArray.size_append]; omega
  have md3 : ¬ (9223372036854775807 < (d2).size + (text).size) := by omega
  have E := Lib.hid (show S = d3 by rw [← hS, pktS, if_neg (by decide), if_neg (by decide), if_neg (by decide), pktH, ec1, ec2, ed1, ed2, ed3])
  clear z0 zt1 zt4 kc1 kc2 kd1 kd2 kd3 zs zi hS
  have hB := (Below.refl w.heap.size w).alloc (Nat.le_refl _) (.cells #[.int .i64 4, .int .i64 fr, .int .i64 seq, .int .i64 id, .int .i64 i, .int .i64 n, .string text, .slice A pn pc] 24)
  have hG : Bk (w.alloc (.cells #[.int .i64 4, .int .i64 fr, .int .i64 seq, .int .i64 id, .int .i64 i, .int .i64 n, .string text, .slice A pn pc] 24)) w.heap.size 24 #[.int .i64 4, .int .i64 fr, .int .i64 seq, .int .i64 id, .int .i64 i, .int .i64 n, .string text, .slice A pn pc] := Bk.new _ _ _
  have hr0 := hr.below hB
  clear hr
  go_enter Try.func9, Try.ntmps9
  go_wp2_with fail
  (with_reducible refine (pcheck_any 4 fr seq id i n text A pn pc P true _ Hb.out HP.out hr0 (by omega) hn).mono ?_)
  rintro e w1 ⟨rfl, hb1⟩
  have hB1 := bl hB hb1
  have hG1 := PHeld.mk_ (hG.below' hb1) (hr0.below hb1)
  clear hB hG hr0 hb1
  have hok : okE true = 0 := rfl
  rw [hok]
  clear hok
  have hG1' := hG1
  obtain ⟨hx1, g0, g1, g2, g3, g4, g5, g6, g7, hx2⟩ := hG1'
  clear hx1 hx2
  go_upto_region 4 with (fail)
  clear g0 g1 g2 g3 g4 g5 g6 g7
  have hcw := PHeld.drew hG1
  unfold PHeld at hcw
  go_region_held3 (fun w' => Below w1.heap.size w1 w' ∧ w'.cell? ⟨w.heap.size, 0, none⟩ = some (.int .i64 4) ∧ w'.cell? ⟨w.heap.size, 1, none⟩ = some (.int .i64 fr) ∧ w'.cell? ⟨w.heap.size, 2, none⟩ = some (.int .i64 seq) ∧ w'.cell? ⟨w.heap.size, 3, none⟩ = some (.int .i64 id) ∧ w'.cell? ⟨w.heap.size, 4, none⟩ = some (.int .i64 i) ∧ w'.cell? ⟨w.heap.size, 5, none⟩ = some (.int .i64 n) ∧ w'.cell? ⟨w.heap.size, 6, none⟩ = some (.string text) ∧ w'.cell? ⟨w.heap.size, 7, none⟩ = some (.slice A pn pc) ∧ Rd w' A (P.map Value.string)) (first | exact hcw | assumption)
    (first
      | (go_at_call 15; with_reducible refine (fixed4 _ _).mono ?_; rintro e w3 ⟨rfl, hb3⟩; have hX := held9 hb3 (by assumption))
      | (go_at_call 15; with_reducible refine (fixed2 _ _).mono ?_; rintro e w3 ⟨rfl, hb3⟩; have hX := held9 hb3 (by assumption))
      | (go_at_call 15; with_reducible refine (fixed1 _ _).mono ?_; rintro e w3 ⟨rfl, hb3⟩; have hX := held9 hb3 (by assumption)))
  have hq := hX
  clear hcw hG1 hb3 hX
  obtain ⟨wq, rfl⟩ : ∃ wq : World, wq = w3 := ⟨_, rfl⟩
  have hB2 := bl hB1 hq.1
  have hcw : PHeld wq w.heap.size 4 fr seq id i n text A pn pc P wq := ⟨Below.refl _ _, hq.2⟩
  obtain ⟨hx1, g0, g1, g2, g3, g4, g5, g6, g7, hx2⟩ := hq
  clear hx1 hx2 hB1
  go_upto_region 12 with (fail)
  clear g0 g1 g2 g3 g4 g5 g6 g7
  have hcw := PHeld.drew hcw
  unfold PHeld at hcw
  go_region_held3 (fun w' => Below wq.heap.size wq w' ∧ w'.cell? ⟨w.heap.size, 0, none⟩ = some (.int .i64 4) ∧ w'.cell? ⟨w.heap.size, 1, none⟩ = some (.int .i64 fr) ∧ w'.cell? ⟨w.heap.size, 2, none⟩ = some (.int .i64 seq) ∧ w'.cell? ⟨w.heap.size, 3, none⟩ = some (.int .i64 id) ∧ w'.cell? ⟨w.heap.size, 4, none⟩ = some (.int .i64 i) ∧ w'.cell? ⟨w.heap.size, 5, none⟩ = some (.int .i64 n) ∧ w'.cell? ⟨w.heap.size, 6, none⟩ = some (.string text) ∧ w'.cell? ⟨w.heap.size, 7, none⟩ = some (.slice A pn pc) ∧ Rd w' A (P.map Value.string)) (first | exact hcw | assumption)
    (first
      | (go_at_call 15; with_reducible refine (fixed4 _ _).mono ?_; rintro e w3 ⟨rfl, hb3⟩; have hX := held9 hb3 (by assumption))
      | (go_at_call 15; with_reducible refine (fixed2 _ _).mono ?_; rintro e w3 ⟨rfl, hb3⟩; have hX := held9 hb3 (by assumption))
      | (go_at_call 15; with_reducible refine (fixed1 _ _).mono ?_; rintro e w3 ⟨rfl, hb3⟩; have hX := held9 hb3 (by assumption)))
  have hB3 := bl hB2 hX.1
  clear hcw hX hb3
  go_wp2_with fail
  go_ret2
  exact ⟨by rw [E.out]; rfl, hB3⟩
end Go.Proofs.Ytfkbcmmhpopdnaa
