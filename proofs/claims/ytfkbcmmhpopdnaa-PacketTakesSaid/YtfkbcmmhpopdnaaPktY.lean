/-
  Packets, the reference's Take: what 'body' tells, as a plain function; the plain law.
-/
import Derived.Test.YtfkbcmmhpopdnaaPktX
import Derived.Test.YtfkbcmmhpopdnaaPktT
namespace Go.Proofs.Ytfkbcmmhpopdnaa
open Go.RowKit

/-- The fields that 'body' tells: seq, id, i, n, text, proof. -/
def bdF (kind : Int) (s : ByteArray) : Int × Int × Int × Int × ByteArray × List ByteArray :=
  if kind = 1 then (0, 0, 0, 0, s, [])
  else if kind = 2 ∧ 231 ≤ s.size then (0, numI (s.extract 0 4), numI (s.extract 4 6), 0, s.extract 6 230, chk s (chkN s))
  else if kind = 3 ∧ 12 ≤ s.size then (numI (s.extract 0 4), numI (s.extract 4 8), numI (s.extract 8 10), numI (s.extract 10 12), s.extract 12 s.size, [])
  else if kind = 4 ∧ 8 ≤ s.size then (numI (s.extract 0 4), numI (s.extract 4 8), 0, 0, s.extract 8 s.size, [])
  else (0, 0, 0, 0, ⟨#[]⟩, [])
theorem body_any (kind fr : Int) (s : ByteArray) (hs : s.size ≤ 1000) (seq id i n : Int) (text : ByteArray) (P : List ByteArray) (h : bdF kind s = (seq, id, i, n, text, P)) (w : World) :
    Calls Try.prog 26 #[.int .i64 kind, .int .i64 fr, .string s] w (BodyEnd kind fr seq id i n text P w) := by
  unfold bdF at h
  by_cases k1 : kind = 1
  · subst k1
    rw [if_pos rfl] at h
    simp only [Prod.mk.injEq] at h
    obtain ⟨rfl, rfl, rfl, rfl, rfl, rfl⟩ := h
    exact body_1 fr s hs w
  · rw [if_neg k1] at h
    by_cases k2 : kind = 2 ∧ 231 ≤ s.size
    · rw [if_pos k2] at h
      simp only [Prod.mk.injEq] at h
      obtain ⟨rfl, rfl, rfl, rfl, rfl, rfl⟩ := h
      obtain ⟨rfl, hl⟩ := k2
      exact body_2 fr s hs hl w
    · rw [if_neg k2] at h
      by_cases k3 : kind = 3 ∧ 12 ≤ s.size
      · rw [if_pos k3] at h
        simp only [Prod.mk.injEq] at h
        obtain ⟨rfl, rfl, rfl, rfl, rfl, rfl⟩ := h
        obtain ⟨rfl, hl⟩ := k3
        exact body_3 fr s hs hl w
      · rw [if_neg k3] at h
        by_cases k4 : kind = 4 ∧ 8 ≤ s.size
        · rw [if_pos k4] at h
          simp only [Prod.mk.injEq] at h
          obtain ⟨rfl, rfl, rfl, rfl, rfl, rfl⟩ := h
          obtain ⟨rfl, hl⟩ := k4
          exact body_4 fr s hs hl w
        · rw [if_neg k4] at h
          simp only [Prod.mk.injEq] at h
          obtain ⟨rfl, rfl, rfl, rfl, rfl, rfl⟩ := h
          exact body_0 kind fr s hs k1 k2 k3 k4 w
theorem bdF_text (kind : Int) (s : ByteArray) (seq id i n : Int) (text : ByteArray) (P : List ByteArray) (h : bdF kind s = (seq, id, i, n, text, P)) : text.size ≤ s.size := by
  have hx : ∀ a b, (s.extract a b).size ≤ s.size := fun a b => by rw [← size_toList, toList_ext, List.length_take, List.length_drop, size_toList]; omega
  unfold bdF at h
  split at h
  · simp only [Prod.mk.injEq] at h
    obtain ⟨_, _, _, _, rfl, _⟩ := h; exact Nat.le_refl _
  · split at h
    · simp only [Prod.mk.injEq] at h
      obtain ⟨_, _, _, _, rfl, _⟩ := h; exact hx _ _
    · split at h
      · simp only [Prod.mk.injEq] at h
        obtain ⟨_, _, _, _, rfl, _⟩ := h; exact hx _ _
      · split at h
        · simp only [Prod.mk.injEq] at h
          obtain ⟨_, _, _, _, rfl, _⟩ := h; exact hx _ _
        · simp only [Prod.mk.injEq] at h
          obtain ⟨_, _, _, _, rfl, _⟩ := h; exact Nat.zero_le _
/-- A number that lies somewhere in a text. -/
theorem numI_at {s : ByteArray} {a : List UInt8} {k : Nat} {x : Int} {l : List UInt8} (p q : Nat) (h : s.toList = a ++ (be x k ++ l)) (hp : p = a.length) (hq : q = a.length + k) (h0 : 0 ≤ x) (h1 : x < 256 ^ k) : numI (s.extract p q) = x := by
  subst hp; subst hq
  unfold numI
  rw [toList_ext, h, List.drop_left, Nat.add_sub_cancel_left, List.take_left' (be_length x k), num_be, Int.emod_eq_of_lt h0 h1]
theorem ext_at {s t : ByteArray} {a : List UInt8} {l : List UInt8} (p q : Nat) (h : s.toList = a ++ (t.toList ++ l)) (hp : p = a.length) (hq : q = a.length + t.size) : s.extract p q = t := by
  subst hp; subst hq
  refine str_eq ?_
  rw [toList_ext, h, List.drop_left, Nat.add_sub_cancel_left, List.take_left' (size_toList t)]
theorem cat_app (a b : List ByteArray) : cat (a ++ b) = cat a ++ cat b := by simp [cat]
theorem cat_cons (x : ByteArray) (b : List ByteArray) : cat (x :: b) = x.toList ++ cat b := by simp [cat]
theorem cat_len_le (P : List ByteArray) (k : Nat) (h : szB P = true) (hk : k ≤ P.length) : (cat (P.take k)).length = 32 * k := by
  rw [cat_len _ (by unfold szB at h ⊢; rw [List.all_eq_true] at h ⊢; exact fun x hx => h x (List.mem_of_mem_take hx)), List.length_take, Nat.min_eq_left hk]
theorem chk_is {s : ByteArray} {a : List UInt8} {P : List ByteArray} (h : s.toList = a ++ cat P) (ha : a.length = 231) (hz : szB P = true) : chk s (chkN s) = P := by
  have hl : s.size = 231 + 32 * P.length := by rw [← size_toList, h, List.length_append, ha, cat_len P hz]
  have hn : chkN s = P.length := by unfold chkN; omega
  rw [hn]
  refine List.ext_getElem? fun k => ?_
  unfold chk
  by_cases hk : k < P.length
  · have e1 : P = P.take k ++ P[k] :: P.drop (k + 1) := by rw [← List.drop_eq_getElem_cons hk, List.take_append_drop]
    have e2 : s.toList = (a ++ cat (P.take k)) ++ (P[k].toList ++ cat (P.drop (k + 1))) := by
      have e3 : cat P = cat (P.take k) ++ (P[k].toList ++ cat (P.drop (k + 1))) := (congrArg cat e1).trans (by rw [cat_app, cat_cons])
      rw [h, e3, List.append_assoc]
    have hs : P[k].size = 32 := szB_at hz (List.getElem?_eq_getElem hk)
    have e3 := ext_at (231 + 32 * k) (min (231 + 32 * k + 32) s.size) e2 (by rw [List.length_append, ha, cat_len_le P k hz (by omega)]) (by rw [List.length_append, ha, cat_len_le P k hz (by omega), hs]; omega)
    rw [List.getElem?_map, List.getElem?_range hk, Option.map_some, e3, List.getElem?_eq_getElem hk]
  · rw [List.getElem?_eq_none (by simp; omega), List.getElem?_eq_none (by omega)]

/-- What 'body' tells of what stands behind a packet's kind and epoch. -/
theorem bdF_is {s2 : ByteArray} {kind fr seq id i n : Int} {text : ByteArray} {P : List ByteArray} (hok : pktOk kind fr seq id i n text P = true) (h : s2.toList = pktT kind seq id i n text P) : bdF kind s2 = (seq, id, i, n, text, P) := by
  have hk := ok_kind hok
  have hks : kind = 1 ∨ kind = 2 ∨ kind = 3 ∨ kind = 4 := by omega
  rcases hks with rfl | rfl | rfl | rfl
  · have e : s2 = text := str_eq h
    subst e
    rw [ok_1, Bool.and_eq_true] at hok
    obtain ⟨_, rfl, rfl, rfl, rfl, h6⟩ := of_decide_eq_true hok.2
    rw [List.eq_nil_of_length_eq_zero h6]; rfl
  · have hw := ok_w hok (by decide)
    rw [ok_2, Bool.and_eq_true, Bool.and_eq_true] at hok
    obtain ⟨rfl, rfl, q3, q4, q5, q6, q7⟩ := of_decide_eq_true hok.2.2
    have h' : s2.toList = be id 4 ++ (be i 2 ++ (text.toList ++ (be (P.length : Int) 1 ++ cat P))) := h
    have hl : 231 ≤ s2.size := by
      rw [← size_toList, h']
      simp only [List.length_append, be_length, size_toList, q5]
      omega
    unfold bdF
    rw [if_neg (by decide), if_pos ⟨rfl, hl⟩]
    rw [numI_at (a := []) (x := id) (k := 4) 0 4 h' rfl rfl (by omega) (by omega),
      numI_at (a := be id 4) (x := i) (k := 2) 4 6 h' (by rw [be_length]) (by rw [be_length]) (by omega) (by omega),
      ext_at (a := be id 4 ++ be i 2) (t := text) (l := be (P.length : Int) 1 ++ cat P) 6 230 (by rw [h']; simp) (by simp [be_length]) (by simp [be_length, q5]),
      chk_is (a := be id 4 ++ (be i 2 ++ (text.toList ++ be (P.length : Int) 1))) (P := P) (by rw [h']; simp) (by simp [be_length, size_toList, q5]) q7]
  · have hw := ok_w hok (by decide)
    rw [ok_3, Bool.and_eq_true, Bool.and_eq_true] at hok
    obtain ⟨q1, q2, q3, q4, q5⟩ := of_decide_eq_true hok.2.2
    obtain ⟨t1, t2, t3⟩ := takeB_0 q1
    have h' : s2.toList = be seq 4 ++ (be id 4 ++ (be i 2 ++ (be n 2 ++ text.toList))) := h
    have hl : 12 ≤ s2.size := by
      rw [← size_toList, h']
      simp only [List.length_append, be_length]
      omega
    unfold bdF
    rw [if_neg (by decide), if_neg (fun e => absurd e.1 (by decide)), if_pos ⟨rfl, hl⟩]
    rw [numI_at (a := []) (x := seq) (k := 4) 0 4 h' rfl rfl (by omega) (by omega),
      numI_at (a := be seq 4) (x := id) (k := 4) 4 8 h' (by rw [be_length]) (by rw [be_length]) (by omega) (by omega),
      numI_at (a := be seq 4 ++ be id 4) (x := i) (k := 2) (l := be n 2 ++ text.toList) 8 10 (by rw [h']; simp) (by simp [be_length]) (by simp [be_length]) (by omega) (by omega),
      numI_at (a := be seq 4 ++ (be id 4 ++ be i 2)) (x := n) (k := 2) (l := text.toList) 10 12 (by rw [h']; simp) (by simp [be_length]) (by simp [be_length]) (by omega) (by omega),
      ext_at (a := be seq 4 ++ (be id 4 ++ (be i 2 ++ be n 2))) (t := text) (l := []) 12 s2.size (by rw [h']; simp) (by simp [be_length]) (by rw [← size_toList, h']; simp [be_length, size_toList]; omega),
      List.eq_nil_of_length_eq_zero q5]
  · have hw := ok_w hok (by decide)
    rw [ok_4, Bool.and_eq_true, Bool.and_eq_true] at hok
    obtain ⟨rfl, rfl, q3, q4⟩ := of_decide_eq_true hok.2.2
    have h' : s2.toList = be seq 4 ++ (be id 4 ++ text.toList) := h
    have hl : 8 ≤ s2.size := by
      rw [← size_toList, h']
      simp only [List.length_append, be_length]
      omega
    unfold bdF
    rw [if_neg (by decide), if_neg (fun e => absurd e.1 (by decide)), if_neg (fun e => absurd e.1 (by decide)), if_pos ⟨rfl, hl⟩]
    rw [numI_at (a := []) (x := seq) (k := 4) 0 4 h' rfl rfl (by omega) (by omega),
      numI_at (a := be seq 4) (x := id) (k := 4) 4 8 h' (by rw [be_length]) (by rw [be_length]) (by omega) (by omega),
      ext_at (a := be seq 4 ++ be id 4) (t := text) (l := []) 8 s2.size (by rw [h']; simp) (by simp [be_length]) (by rw [← size_toList, h']; simp [be_length, size_toList]; omega),
      List.eq_nil_of_length_eq_zero q3]
end Go.Proofs.Ytfkbcmmhpopdnaa
