/-
  Packets: a packet's bytes are its own, and no beginning of another one's: plain law; the walk of Same.
-/
import Derived.Test.YtfkbcmmhpopdnaaPktY
import Derived.Test.YtfkbcmmhpopdnaaPktU
import Derived.Test.YtfkbcmmhpopdnaaTexts
namespace Go.Proofs.Ytfkbcmmhpopdnaa
open Go.RowKit

theorem pkt_inj {kind fr seq id i n : Int} {text : ByteArray} {P : List ByteArray} {kind' fr' seq' id' i' n' : Int} {text' : ByteArray} {P' : List ByteArray} (h1 : pktOk kind fr seq id i n text P = true) (h2 : pktOk kind' fr' seq' id' i' n' text' P' = true)
    (h : pktS kind' fr' seq' id' i' n' text' P' = pktS kind fr seq id i n text P) : kind' = kind ∧ fr' = fr ∧ seq' = seq ∧ id' = id ∧ i' = i ∧ n' = n ∧ text' = text ∧ P' = P := by
  obtain ⟨s, hs⟩ : ∃ s, pktS kind fr seq id i n text P = s := ⟨_, rfl⟩
  rw [hs] at h
  obtain ⟨t, c, hc⟩ : ∃ t c, cutP s ⟨#[83, 76, 80, 49]⟩ = (t, c) := ⟨_, _, rfl⟩
  obtain ⟨K, s1, b1, e1⟩ : ∃ k r b, rdN t (!c) 1 = (k, r, b) := ⟨_, _, _, rfl⟩
  obtain ⟨F, s2, b2, e2⟩ : ∃ k r b, rdN s1 b1 4 = (k, r, b) := ⟨_, _, _, rfl⟩
  obtain ⟨a1, a2, _, a4⟩ := head_b hc e1 e2 h1 hs
  obtain ⟨b1, b2, _, b4⟩ := head_b hc e1 e2 h2 h
  subst a1; subst a2; subst b1; subst b2
  have e := (bdF_is h2 b4).symm.trans (bdF_is h1 a4)
  simp only [Prod.mk.injEq] at e
  obtain ⟨q1, q2, q3, q4, q5, q6⟩ := e
  exact ⟨rfl, rfl, q1, q2, q3, q4, q5, q6⟩

/-- How long the packet is that a text begins with. -/
def tlen (l : List UInt8) : Nat := if l.getD 4 0 = 1 then 107 else if l.getD 4 0 = 2 then 240 + 32 * (l.getD 239 0).toNat else if l.getD 4 0 = 3 then 53 else 49
theorem hdr_size {s : ByteArray} (h : hdrE s = 0) : s.size = 98 := by
  apply Classical.byContradiction
  intro hs
  unfold hdrE hdrB at h
  rw [decide_eq_false hs, Bool.false_and, Bool.false_and] at h
  cases h
theorem be1 (n : Int) : be n 1 = [byteOf n] := by
  rw [be_cons]; simp [be]
theorem getD_app {l m : List UInt8} {k : Nat} (h : l.length = k) (x : UInt8) : (l ++ x :: m).getD k 0 = x := by
  subst h
  rw [List.getD_eq_getElem?_getD, List.getElem?_append_right (Nat.le_refl _), Nat.sub_self]; rfl
theorem tlen_is {kind fr seq id i n : Int} {text : ByteArray} {P : List ByteArray} (hok : pktOk kind fr seq id i n text P = true) (x : List UInt8) : (pktS kind fr seq id i n text P).toList.length = tlen ((pktS kind fr seq id i n text P).toList ++ x) := by
  have hk := ok_kind hok
  have hks : kind = 1 ∨ kind = 2 ∨ kind = 3 ∨ kind = 4 := by omega
  have h4 : ∀ k : Int, ([83, 76, 80, 49] ++ (be k 1 ++ (be fr 4 ++ pktT k seq id i n text P)) ++ x).getD 4 0 = byteOf k := fun k => by
    rw [be1]
    have e : [83, 76, 80, 49] ++ ([byteOf k] ++ (be fr 4 ++ pktT k seq id i n text P)) ++ x = [83, 76, 80, 49] ++ byteOf k :: (be fr 4 ++ pktT k seq id i n text P ++ x) := by simp
    rw [e]
    exact getD_app rfl _
  rw [pktS_list]
  rcases hks with rfl | rfl | rfl | rfl
  · unfold tlen
    rw [h4, if_pos (by decide)]
    rw [ok_1, Bool.and_eq_true] at hok
    have hz := hdr_size (of_decide_eq_true hok.2).1
    simp only [List.length_append, be_length, List.length_cons, List.length_nil]
    have : (pktT 1 seq id i n text P).length = text.size := by rw [← size_toList]; rfl
    omega
  · unfold tlen
    rw [h4, if_neg (by decide), if_pos (by decide)]
    rw [ok_2, Bool.and_eq_true, Bool.and_eq_true] at hok
    obtain ⟨rfl, rfl, q3, q4, q5, q6, q7⟩ := of_decide_eq_true hok.2.2
    have hT : pktT 2 0 id i 0 text P = be id 4 ++ (be i 2 ++ (text.toList ++ (be (P.length : Int) 1 ++ cat P))) := rfl
    have e : [83, 76, 80, 49] ++ (be 2 1 ++ (be fr 4 ++ pktT 2 0 id i 0 text P)) ++ x = ([83, 76, 80, 49] ++ (be 2 1 ++ (be fr 4 ++ (be id 4 ++ (be i 2 ++ text.toList))))) ++ byteOf (P.length : Int) :: (cat P ++ x) := by
      rw [hT, be1 (P.length : Int)]; simp
    rw [e, getD_app (by simp [be_length, size_toList, q5])]
    have hb : ((byteOf (P.length : Int)).toNat : Int) = (P.length : Int) := by rw [byteOf_toNat, Int.emod_eq_of_lt (by omega) (by omega)]
    rw [hT]
    simp only [List.length_append, be_length, List.length_cons, List.length_nil, size_toList, q5, cat_len P q7]
    omega
  · unfold tlen
    rw [h4, if_neg (by decide), if_neg (by decide), if_pos (by decide)]
    rw [ok_3, Bool.and_eq_true, Bool.and_eq_true] at hok
    obtain ⟨q1, _⟩ := of_decide_eq_true hok.2.2
    obtain ⟨_, _, t3⟩ := takeB_0 q1
    have hT : pktT 3 seq id i n text P = be seq 4 ++ (be id 4 ++ (be i 2 ++ (be n 2 ++ text.toList))) := rfl
    rw [hT]
    simp only [List.length_append, be_length, List.length_cons, List.length_nil, t3]
  · unfold tlen
    rw [h4, if_neg (by decide), if_neg (by decide), if_neg (by decide)]
    rw [ok_4, Bool.and_eq_true, Bool.and_eq_true] at hok
    obtain ⟨_, _, _, q4⟩ := of_decide_eq_true hok.2.2
    have hT : pktT 4 seq id i n text P = be seq 4 ++ (be id 4 ++ text.toList) := rfl
    rw [hT]
    simp only [List.length_append, be_length, List.length_cons, List.length_nil, size_toList, q4]
/-- No packet's bytes are the beginning of another one's. -/
theorem pkt_pre {kind fr seq id i n : Int} {text : ByteArray} {P : List ByteArray} {kind' fr' seq' id' i' n' : Int} {text' : ByteArray} {P' : List ByteArray} (h1 : pktOk kind fr seq id i n text P = true) (h2 : pktOk kind' fr' seq' id' i' n' text' P' = true) (x : List UInt8)
    (h : (pktS kind' fr' seq' id' i' n' text' P').toList = (pktS kind fr seq id i n text P).toList ++ x) : x = [] := by
  have e1 := tlen_is h1 x
  have e2 := tlen_is h2 []
  rw [List.append_nil, h] at e2
  rw [List.length_append, ← e1] at e2
  exact List.eq_nil_of_length_eq_zero (by omega)
theorem pkt_size {kind fr seq id i n : Int} {text : ByteArray} {P : List ByteArray} (hok : pktOk kind fr seq id i n text P = true) : 49 ≤ (pktS kind fr seq id i n text P).size ∧ (pktS kind fr seq id i n text P).size ≤ 600 := by
  have h := tlen_is hok []
  rw [size_toList] at h
  have hp := ok_proof hok
  have hk := ok_kind hok
  have hks : kind = 1 ∨ kind = 2 ∨ kind = 3 ∨ kind = 4 := by omega
  rw [← size_toList, pktS_list]
  simp only [List.length_append, be_length, List.length_cons, List.length_nil]
  rcases hks with rfl | rfl | rfl | rfl
  · rw [ok_1, Bool.and_eq_true] at hok
    have hz := hdr_size (of_decide_eq_true hok.2).1
    have : (pktT 1 seq id i n text P).length = text.size := by rw [← size_toList]; rfl
    omega
  · rw [ok_2, Bool.and_eq_true, Bool.and_eq_true] at hok
    obtain ⟨_, _, _, _, q5, _, _⟩ := of_decide_eq_true hok.2.2
    have : (pktT 2 seq id i n text P).length = 4 + (2 + (text.size + (1 + (cat P).length))) := by
      rw [show pktT 2 seq id i n text P = be id 4 ++ (be i 2 ++ (text.toList ++ (be (P.length : Int) 1 ++ cat P))) from rfl]
      simp only [List.length_append, be_length, size_toList]
    omega
  · rw [ok_3, Bool.and_eq_true, Bool.and_eq_true] at hok
    obtain ⟨q1, _⟩ := of_decide_eq_true hok.2.2
    obtain ⟨_, _, t3⟩ := takeB_0 q1
    have : (pktT 3 seq id i n text P).length = 4 + (4 + (2 + (2 + 32))) := by
      rw [show pktT 3 seq id i n text P = be seq 4 ++ (be id 4 ++ (be i 2 ++ (be n 2 ++ text.toList))) from rfl]
      simp only [List.length_append, be_length, t3]
    omega
  · rw [ok_4, Bool.and_eq_true, Bool.and_eq_true] at hok
    obtain ⟨_, _, _, q4⟩ := of_decide_eq_true hok.2.2
    have : (pktT 4 seq id i n text P).length = 4 + (4 + 32) := by
      rw [show pktT 4 seq id i n text P = be seq 4 ++ (be id 4 ++ text.toList) from rfl]
      simp only [List.length_append, be_length, size_toList, q4]
    omega

set_option maxRecDepth 20000 in
set_option maxHeartbeats 4000000 in
theorem sameK_any (kind fr seq id i n : Int) (text : ByteArray) (A : Option Addr) (pn pc : Nat) (B : Option Addr) (pd : Nat) (P : List ByteArray) (w : World) (hP : P.length = pn) (hr : Rd w A (P.map Value.string)) (hr2 : Rd w B (P.map Value.string)) (hn : pn ≤ 9223372036854775807) :
    Calls Try.prog 14 #[.agg #[.int .i64 kind, .int .i64 fr, .int .i64 seq, .int .i64 id, .int .i64 i, .int .i64 n, .string text, .slice A pn pc], .agg #[.int .i64 kind, .int .i64 fr, .int .i64 seq, .int .i64 id, .int .i64 i, .int .i64 n, .string text, .slice B pn pd]] w fun e w' => e = .returned (.bool true) ∧ Below w.heap.size w w' := by
  have HP := Lib.hid hP
  clear hP
  have hb : Below w.heap.size w ((w.alloc (.cells #[.int .i64 kind, .int .i64 fr, .int .i64 seq, .int .i64 id, .int .i64 i, .int .i64 n, .string text, .slice A pn pc] 24)).alloc (.cells #[.int .i64 kind, .int .i64 fr, .int .i64 seq, .int .i64 id, .int .i64 i, .int .i64 n, .string text, .slice B pn pd] 24)) := ((Below.refl _ _).alloc (Nat.le_refl _) _).alloc (by simp) _
  have h1 := hr.below hb
  have h2 := hr2.below hb
  go_enter Try.func14, Try.ntmps14
  go_wp2_with fail
  (with_reducible refine (sameTexts_any A pn pc P B pn pd P _ HP.out HP.out h1 h2 hn hn true (decide_eq_true rfl)).mono ?_)
  rintro e w3 ⟨rfl, h3⟩
  go_wp2_with fail
  go_ret
  exact ⟨rfl, bl hb h3⟩
end Go.Proofs.Ytfkbcmmhpopdnaa
