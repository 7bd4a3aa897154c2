/-
  Packets: what is read of a text, and the packet whose bytes it is: plain law.
-/
import Derived.Test.YtfkbcmmhpopdnaaPktR
namespace Go.Proofs.Ytfkbcmmhpopdnaa
open Go.RowKit

/-- What stands behind a packet's kind and epoch. -/
def pktT (kind seq id i n : Int) (text : ByteArray) (P : List ByteArray) : List UInt8 :=
  if kind = 1 then text.toList
  else if kind = 2 then be id 4 ++ (be i 2 ++ (text.toList ++ (be (P.length : Int) 1 ++ cat P)))
  else if kind = 3 then be seq 4 ++ (be id 4 ++ (be i 2 ++ (be n 2 ++ text.toList)))
  else be seq 4 ++ (be id 4 ++ text.toList)
theorem mark_list : (⟨#[83, 76, 80, 49]⟩ : ByteArray).toList = [83, 76, 80, 49] := toList_ofL [83, 76, 80, 49]
theorem pktS_list (kind fr seq id i n : Int) (text : ByteArray) (P : List ByteArray) : (pktS kind fr seq id i n text P).toList = [83, 76, 80, 49] ++ (be kind 1 ++ (be fr 4 ++ pktT kind seq id i n text P)) := by
  unfold pktS pktT pktH
  split
  · simp only [toList_app, toList_ofL, mark_list, List.append_assoc]
  · split
    · simp only [toList_app, toList_ofL, mark_list, List.append_assoc]
    · split
      · simp only [toList_app, toList_ofL, mark_list, List.append_assoc]
      · simp only [toList_app, toList_ofL, mark_list, List.append_assoc]

theorem cut_a {s t : ByteArray} (h : cutP s ⟨#[83, 76, 80, 49]⟩ = (t, true)) : s.toList = [83, 76, 80, 49] ++ t.toList := by
  unfold cutP at h
  split at h
  · rename_i hp
    simp only [Prod.mk.injEq] at h
    obtain ⟨rfl, _⟩ := h
    have h1 : (⟨#[83, 76, 80, 49]⟩ : ByteArray).data.toList.isPrefixOf s.data.toList = true := hp
    rw [List.isPrefixOf_iff_prefix, List.prefix_iff_eq_append] at h1
    have e : (⟨#[83, 76, 80, 49]⟩ : ByteArray).data.toList = [83, 76, 80, 49] := rfl
    rw [e] at h1
    rw [toList_suf]
    have h2 : s.data.toList = s.toList := (ByteArray.toList_eq s).symm
    rw [h2] at h1
    exact h1.symm
  · simp at h
theorem cut_b {s : ByteArray} {l : List UInt8} (h : s.toList = [83, 76, 80, 49] ++ l) : cutP s ⟨#[83, 76, 80, 49]⟩ = (ofL l, true) := by
  have h2 : s.data.toList = s.toList := (ByteArray.toList_eq s).symm
  have hp : Lib.hasPrefix s.data.toList (⟨#[83, 76, 80, 49]⟩ : ByteArray).data.toList = true := by
    unfold Lib.hasPrefix
    rw [List.isPrefixOf_iff_prefix, h2, h]
    exact ⟨l, rfl⟩
  unfold cutP
  rw [if_pos hp]
  refine Prod.ext (str_eq ?_) rfl
  show (s.extract 4 s.size).toList = _
  rw [toList_suf, toList_ofL, h]
  rfl
theorem rdN_size {s r : ByteArray} {b b2 : Bool} {k : Nat} {v : Int} (h : rdN s b k = (v, r, b2)) : r.size ≤ s.size := by
  unfold rdN at h
  split at h
  · simp only [Prod.mk.injEq] at h
    obtain ⟨_, rfl, _⟩ := h
    rw [suf_size _ _ (by assumption)]; omega
  · simp only [Prod.mk.injEq] at h
    obtain ⟨_, rfl, _⟩ := h
    exact Nat.zero_le _
theorem rdN_num {s r : ByteArray} {b b2 : Bool} {k : Nat} {v : Int} (h : rdN s b k = (v, r, b2)) : 0 ≤ v ∧ v < 256 ^ k := by
  unfold rdN at h
  split at h
  · rename_i hk
    simp only [Prod.mk.injEq] at h
    obtain ⟨rfl, _⟩ := h
    have hl : (s.toList.take k).length = k := by rw [List.length_take, size_toList]; omega
    have hn := num_lt (s.toList.take k)
    rw [hl] at hn
    exact ⟨by omega, p256_cast hn⟩
  · simp only [Prod.mk.injEq] at h
    obtain ⟨rfl, _⟩ := h
    exact ⟨by omega, by have : (0 : Int) < 256 ^ k := Int.pow_pos (by omega); omega⟩
theorem rdT_size {s t r : ByteArray} {b b2 : Bool} {k : Nat} (h : rdT s b k = (t, r, b2)) : r.size ≤ s.size ∧ t.size ≤ s.size := by
  unfold rdT at h
  split at h
  · rename_i hk
    simp only [Prod.mk.injEq] at h
    obtain ⟨rfl, rfl, _⟩ := h
    rw [suf_size _ _ hk.2, pre_size _ _ hk.2]; omega
  · simp only [Prod.mk.injEq] at h
    obtain ⟨rfl, rfl, _⟩ := h
    exact ⟨Nat.le_refl _, Nat.zero_le _⟩
theorem cutP_size {s p t : ByteArray} {b : Bool} (h : cutP s p = (t, b)) : t.size ≤ s.size := by
  unfold cutP at h
  split at h
  · simp only [Prod.mk.injEq] at h
    obtain ⟨rfl, _⟩ := h
    rw [← size_toList, toList_suf, List.length_drop, size_toList]; omega
  · simp only [Prod.mk.injEq] at h
    obtain ⟨rfl, _⟩ := h
    exact Nat.le_refl _
theorem empty_of {r : ByteArray} (h : r.size = 0) : r.toList = [] := List.eq_nil_of_length_eq_zero (by rw [size_toList]; exact h)
theorem size_ofL0 : (ofL []).size = 0 := by rw [size_ofL]; rfl

/-- The bytes are a packet's, if what is left is what stands behind its kind and epoch. -/
theorem head_a {s t s1 s2 : ByteArray} {c b1 : Bool} {kind fr seq id i n : Int} {text : ByteArray} {P : List ByteArray} (hc : cutP s ⟨#[83, 76, 80, 49]⟩ = (t, c)) (h1 : rdN t (!c) 1 = (kind, s1, b1)) (h2 : rdN s1 b1 4 = (fr, s2, false)) (h : s2.toList = pktT kind seq id i n text P) :
    pktS kind fr seq id i n text P = s := by
  obtain ⟨rfl, e2, _⟩ := rdN_a h2
  obtain ⟨hc', e1, _⟩ := rdN_a h1
  have : c = true := by cases c with | true => rfl | false => cases hc'
  subst this
  refine str_eq ?_
  rw [pktS_list, cut_a hc, e1, e2, h]
theorem ok_kind {kind fr seq id i n : Int} {text : ByteArray} {P : List ByteArray} (h : pktOk kind fr seq id i n text P = true) : 1 ≤ kind ∧ kind ≤ 4 := by
  apply Classical.byContradiction
  intro hk
  have := pktOk_lo h (by omega)
  cases this
theorem ok_fr {kind fr seq id i n : Int} {text : ByteArray} {P : List ByteArray} (h : pktOk kind fr seq id i n text P = true) : 1 ≤ fr ∧ fr ≤ 4294967295 := by
  cases h2 : w32 fr 1 with
  | true => exact of_decide_eq_true h2
  | false => have := pktOk_fr h h2; cases this
theorem head_b {s t s1 s2 : ByteArray} {c b1 b2 : Bool} {kind fr : Int} {k' fr' seq id i n : Int} {text : ByteArray} {P : List ByteArray} (hc : cutP s ⟨#[83, 76, 80, 49]⟩ = (t, c)) (h1 : rdN t (!c) 1 = (kind, s1, b1)) (h2 : rdN s1 b1 4 = (fr, s2, b2))
    (hok : pktOk k' fr' seq id i n text P = true) (h : pktS k' fr' seq id i n text P = s) : kind = k' ∧ fr = fr' ∧ b2 = false ∧ s2.toList = pktT kind seq id i n text P := by
  have hs : s.toList = [83, 76, 80, 49] ++ (be k' 1 ++ (be fr' 4 ++ pktT k' seq id i n text P)) := by rw [← h, pktS_list]
  rw [cut_b hs] at hc
  simp only [Prod.mk.injEq] at hc
  obtain ⟨rfl, rfl⟩ := hc
  have hk := ok_kind hok
  have hf := ok_fr hok
  have e1 := rdN_b (toList_ofL (be k' 1 ++ (be fr' 4 ++ pktT k' seq id i n text P))) (by omega) (by omega)
  have h1' := h1.symm.trans e1
  simp only [Prod.mk.injEq] at h1'
  obtain ⟨rfl, rfl, rfl⟩ := h1'
  have e2 := rdN_b (toList_ofL (be fr' 4 ++ pktT kind seq id i n text P)) (by omega) (by omega)
  have h2' := h2.symm.trans e2
  simp only [Prod.mk.injEq] at h2'
  obtain ⟨rfl, rfl, rfl⟩ := h2'
  exact ⟨rfl, rfl, rfl, toList_ofL _⟩

/-- What is left when a packet's parts are read. -/
def Left (r : ByteArray) (b : Bool) : Prop := b = false ∧ r.size = 0
-- kind 1
theorem k1_a {s2 s3 x : ByteArray} {b2 b3 : Bool} (h3 : rdT s2 b2 s2.size = (x, s3, b3)) (hl : Left s3 b3) : b2 = false ∧ s2.toList = pktT 1 0 0 0 0 x [] := by
  obtain ⟨rfl, hz⟩ := hl
  obtain ⟨e1, e2, _⟩ := rdT_a h3
  refine ⟨e1, ?_⟩
  rw [e2, empty_of hz, List.append_nil]; rfl
theorem k1_b {s2 s3 x : ByteArray} {b3 : Bool} {fr seq id i n : Int} {text : ByteArray} {P : List ByteArray} (hok : pktOk 1 fr seq id i n text P = true) (h3 : rdT s2 false s2.size = (x, s3, b3)) (h : s2.toList = pktT 1 seq id i n text P) :
    Left s3 b3 ∧ seq = 0 ∧ id = 0 ∧ i = 0 ∧ n = 0 ∧ text = x ∧ P = [] := by
  have e : s2 = text := str_eq h
  subst e
  have e1 := rdT_b (s := s2) (t := s2) (k := s2.size) (l := []) (by simp) rfl
  have e2 := h3.symm.trans e1
  simp only [Prod.mk.injEq] at e2
  obtain ⟨rfl, rfl, rfl⟩ := e2
  rw [ok_1, Bool.and_eq_true] at hok
  obtain ⟨_, h1, h2, h4, h5, h6⟩ := of_decide_eq_true hok.2
  exact ⟨⟨rfl, size_ofL0⟩, h1, h2, h4, h5, rfl, List.eq_nil_of_length_eq_zero h6⟩
-- kind 4, and what is none
theorem k4_a {s2 s3 s4 s5 x : ByteArray} {b2 b3 b4 b5 : Bool} {seq id : Int} (h3 : rdN s2 b2 4 = (seq, s3, b3)) (h4 : rdN s3 b3 4 = (id, s4, b4)) (h5 : rdT s4 b4 s4.size = (x, s5, b5)) (hl : Left s5 b5) : b2 = false ∧ s2.toList = pktT 4 seq id 0 0 x [] := by
  obtain ⟨rfl, hz⟩ := hl
  obtain ⟨rfl, e5, _⟩ := rdT_a h5
  obtain ⟨rfl, e4, _⟩ := rdN_a h4
  obtain ⟨rfl, e3, _⟩ := rdN_a h3
  refine ⟨rfl, ?_⟩
  rw [e3, e4, e5, empty_of hz, List.append_nil]; rfl
theorem ok_w {kind fr seq id i n : Int} {text : ByteArray} {P : List ByteArray} (h : pktOk kind fr seq id i n text P = true) (hk : ¬ kind = 1) : 1 ≤ id ∧ id ≤ 4294967295 ∧ 0 ≤ seq ∧ seq ≤ 4294967295 := by
  cases h2 : w32 id 1 with
  | true =>
    cases h3 : w32 seq 0 with
    | true => have a := of_decide_eq_true h2; have b := of_decide_eq_true h3; exact ⟨a.1, a.2, b.1, b.2⟩
    | false => have := pktOk_wd h hk (.inr h3); cases this
  | false => have := pktOk_wd h hk (.inl h2); cases this
theorem k4_b {s2 s3 s4 s5 x : ByteArray} {b3 b4 b5 : Bool} {seq id : Int} {fr seq' id' i n : Int} {text : ByteArray} {P : List ByteArray} (hok : pktOk 4 fr seq' id' i n text P = true) (h3 : rdN s2 false 4 = (seq, s3, b3)) (h4 : rdN s3 b3 4 = (id, s4, b4)) (h5 : rdT s4 b4 s4.size = (x, s5, b5)) (h : s2.toList = pktT 4 seq' id' i n text P) :
    Left s5 b5 ∧ seq' = seq ∧ id' = id ∧ i = 0 ∧ n = 0 ∧ text = x ∧ P = [] := by
  have hw := ok_w hok (by decide)
  have h' : s2.toList = be seq' 4 ++ (be id' 4 ++ text.toList) := h
  have e1 := h3.symm.trans (rdN_b h' (by omega) (by omega))
  simp only [Prod.mk.injEq] at e1
  obtain ⟨rfl, rfl, rfl⟩ := e1
  have e2 := h4.symm.trans (rdN_b (toList_ofL _) (by omega) (by omega))
  simp only [Prod.mk.injEq] at e2
  obtain ⟨rfl, rfl, rfl⟩ := e2
  have e3 := h5.symm.trans (rdT_b (t := text) (l := []) (by rw [toList_ofL, List.append_nil]) (by rw [ofL_toList]))
  simp only [Prod.mk.injEq] at e3
  obtain ⟨rfl, rfl, rfl⟩ := e3
  rw [ok_4, Bool.and_eq_true, Bool.and_eq_true] at hok
  obtain ⟨h1, h2, h4, _⟩ := of_decide_eq_true hok.2.2
  exact ⟨⟨rfl, size_ofL0⟩, rfl, rfl, h1, h2, rfl, List.eq_nil_of_length_eq_zero h4⟩
-- kind 3
theorem k3_a {s2 s3 s4 s5 s6 s7 x : ByteArray} {b2 b3 b4 b5 b6 b7 : Bool} {seq id i n : Int} (h3 : rdN s2 b2 4 = (seq, s3, b3)) (h4 : rdN s3 b3 4 = (id, s4, b4)) (h5 : rdN s4 b4 2 = (i, s5, b5)) (h6 : rdN s5 b5 2 = (n, s6, b6)) (h7 : rdT s6 b6 32 = (x, s7, b7)) (hl : Left s7 b7) : b2 = false ∧ s2.toList = pktT 3 seq id i n x [] := by
  obtain ⟨rfl, hz⟩ := hl
  obtain ⟨rfl, e7, _⟩ := rdT_a h7
  obtain ⟨rfl, e6, _⟩ := rdN_a h6
  obtain ⟨rfl, e5, _⟩ := rdN_a h5
  obtain ⟨rfl, e4, _⟩ := rdN_a h4
  obtain ⟨rfl, e3, _⟩ := rdN_a h3
  refine ⟨rfl, ?_⟩
  rw [e3, e4, e5, e6, e7, empty_of hz, List.append_nil]; rfl
theorem takeB_0 {n : Int} {l : List UInt8} (h : (takeB n l).2 = 0) : 0 ≤ n ∧ n ≤ 256 ∧ l.length = 32 := by
  unfold takeB at h
  split at h
  · cases h
  · split at h
    · cases h
    · refine ⟨by omega, by omega, by omega⟩
theorem k3_b {s2 s3 s4 s5 s6 s7 x : ByteArray} {b3 b4 b5 b6 b7 : Bool} {seq id i n : Int} {fr seq' id' i' n' : Int} {text : ByteArray} {P : List ByteArray} (hok : pktOk 3 fr seq' id' i' n' text P = true) (h3 : rdN s2 false 4 = (seq, s3, b3)) (h4 : rdN s3 b3 4 = (id, s4, b4)) (h5 : rdN s4 b4 2 = (i, s5, b5)) (h6 : rdN s5 b5 2 = (n, s6, b6)) (h7 : rdT s6 b6 32 = (x, s7, b7)) (h : s2.toList = pktT 3 seq' id' i' n' text P) :
    Left s7 b7 ∧ seq' = seq ∧ id' = id ∧ i' = i ∧ n' = n ∧ text = x ∧ P = [] := by
  have hw := ok_w hok (by decide)
  have h' : s2.toList = be seq' 4 ++ (be id' 4 ++ (be i' 2 ++ (be n' 2 ++ text.toList))) := h
  rw [ok_3, Bool.and_eq_true, Bool.and_eq_true] at hok
  obtain ⟨q1, q2, q3, q4, q5⟩ := of_decide_eq_true hok.2.2
  obtain ⟨t1, t2, t3⟩ := takeB_0 q1
  rw [size_toList] at t3
  have e1 := h3.symm.trans (rdN_b h' (by omega) (by omega))
  simp only [Prod.mk.injEq] at e1
  obtain ⟨rfl, rfl, rfl⟩ := e1
  have e2 := h4.symm.trans (rdN_b (toList_ofL _) (by omega) (by omega))
  simp only [Prod.mk.injEq] at e2
  obtain ⟨rfl, rfl, rfl⟩ := e2
  have e3 := h5.symm.trans (rdN_b (toList_ofL _) (by omega) (by omega))
  simp only [Prod.mk.injEq] at e3
  obtain ⟨rfl, rfl, rfl⟩ := e3
  have e4 := h6.symm.trans (rdN_b (toList_ofL _) (by omega) (by omega))
  simp only [Prod.mk.injEq] at e4
  obtain ⟨rfl, rfl, rfl⟩ := e4
  have e5 := h7.symm.trans (rdT_b (t := text) (l := []) (by rw [toList_ofL, List.append_nil]) t3)
  simp only [Prod.mk.injEq] at e5
  obtain ⟨rfl, rfl, rfl⟩ := e5
  exact ⟨⟨rfl, size_ofL0⟩, rfl, rfl, rfl, rfl, rfl, List.eq_nil_of_length_eq_zero q5⟩
-- kind 2
theorem k2_a {s2 s3 s4 s5 s6 s7 x : ByteArray} {b2 b3 b4 b5 b6 b7 : Bool} {id i m : Int} {P : List ByteArray} (h3 : rdN s2 b2 4 = (id, s3, b3)) (h4 : rdN s3 b3 2 = (i, s4, b4)) (h5 : rdT s4 b4 224 = (x, s5, b5)) (h6 : rdN s5 b5 1 = (m, s6, b6)) (h7 : rdP m.toNat s6 b6 = (P, s7, b7)) (hl : Left s7 b7) : b2 = false ∧ s2.toList = pktT 2 0 id i 0 x P := by
  obtain ⟨rfl, hz⟩ := hl
  obtain ⟨rfl, e7, hm, _⟩ := rdP_a _ _ _ _ _ h7
  obtain ⟨rfl, e6, h0, _⟩ := rdN_a h6
  obtain ⟨rfl, e5, _⟩ := rdT_a h5
  obtain ⟨rfl, e4, _⟩ := rdN_a h4
  obtain ⟨rfl, e3, _⟩ := rdN_a h3
  refine ⟨rfl, ?_⟩
  have : m = (P.length : Int) := by omega
  rw [e3, e4, e5, e6, e7, empty_of hz, List.append_nil, this]; rfl
theorem k2_b {s2 s3 s4 s5 s6 s7 x : ByteArray} {b3 b4 b5 b6 b7 : Bool} {id i m : Int} {P : List ByteArray} {fr seq' id' i' n' : Int} {text : ByteArray} {P' : List ByteArray} (hok : pktOk 2 fr seq' id' i' n' text P' = true) (h3 : rdN s2 false 4 = (id, s3, b3)) (h4 : rdN s3 b3 2 = (i, s4, b4)) (h5 : rdT s4 b4 224 = (x, s5, b5)) (h6 : rdN s5 b5 1 = (m, s6, b6)) (h7 : rdP m.toNat s6 b6 = (P, s7, b7)) (h : s2.toList = pktT 2 seq' id' i' n' text P') :
    Left s7 b7 ∧ seq' = 0 ∧ id' = id ∧ i' = i ∧ n' = 0 ∧ text = x ∧ P' = P := by
  have hw := ok_w hok (by decide)
  have h' : s2.toList = be id' 4 ++ (be i' 2 ++ (text.toList ++ (be (P'.length : Int) 1 ++ cat P'))) := h
  rw [ok_2, Bool.and_eq_true, Bool.and_eq_true] at hok
  obtain ⟨q1, q2, q3, q4, q5, q6, q7⟩ := of_decide_eq_true hok.2.2
  have e1 := h3.symm.trans (rdN_b h' (by omega) (by omega))
  simp only [Prod.mk.injEq] at e1
  obtain ⟨rfl, rfl, rfl⟩ := e1
  have e2 := h4.symm.trans (rdN_b (toList_ofL _) (by omega) (by omega))
  simp only [Prod.mk.injEq] at e2
  obtain ⟨rfl, rfl, rfl⟩ := e2
  have e3 := h5.symm.trans (rdT_b (toList_ofL _) q5)
  simp only [Prod.mk.injEq] at e3
  obtain ⟨rfl, rfl, rfl⟩ := e3
  have e4 := h6.symm.trans (rdN_b (toList_ofL _) (by omega) (by omega))
  simp only [Prod.mk.injEq] at e4
  obtain ⟨rfl, rfl, rfl⟩ := e4
  have e5 := rdP_b P' (ofL (cat P')) [] (by rw [toList_ofL, List.append_nil]) q7
  rw [Int.toNat_natCast] at h7
  have e6 := h7.symm.trans e5
  simp only [Prod.mk.injEq] at e6
  obtain ⟨rfl, rfl, rfl⟩ := e6
  exact ⟨⟨rfl, size_ofL0⟩, q1, rfl, rfl, q2, rfl, rfl⟩
end Go.Proofs.Ytfkbcmmhpopdnaa
