/-
  The walk of index.Take.
-/
import Derived.Test.YtnhbkfefpkocaaaP16
import Derived.Deep.RegionLaw
import Derived.Deep.CutBlock
namespace Go.Proofs.Ytnhbkfefpkocaaa
open Go.RowKit Go.Sort

/-- Append of one element that was just laid, in a region that draws its order: which blocks stay. -/
theorem step_append_gb {P : Program} {ops : Array Oper} {o : Oper} {a : Act} {w : World} {K : Act → World → Prop} {Q : Exit → Act → World → Prop} {E : Prop} (hgd : o.guard = none) (s x : Operand) (t : TypeId)
    (ho : o.op = .call { callee := .builtin .append, args := #[s, x], argTypes := #[t, t] })
    (base : Nat) (e : TypeId) (size bytes : Nat) (hel : El P t e size bytes) (v : Value) (n : Nat) (xs : List Value) (hown : w.ownsRow base e size v n xs) (hs : a.eval s = v) (C : Array Value) (ad : Addr)
    (hx : a.eval x = .slice (some ad) 1 1) (hcell : ∀ j u, C.toList[j]? = some u → w.cell? (ad.add j) = some u) (hC : C.size = size) (h1 : ∀ u ∈ C.toList, u.oneCell' = true)
    (h63 : n + 1 ≤ maxLen) (hbytes : (n + 1) * bytes ≤ 140737488355328) (hbase : base ≤ w.heap.size)
    (hK : ∀ v' w', w'.ownsRow base e size v' (n + 1) (xs ++ C.toList) → w.grownBy w' v.ownBlock → Below base w w' → K (a.put o.dst v') w') :
    if Region.wanted o (yielded ops a.tmps) = true then Oper.wp P o a w K Q else E := by
  obtain ⟨ht, hsz, i, z, hi, hz, hsize, hby, hzs⟩ := hel
  have hw : Region.wanted o (yielded ops a.tmps) = true := by simp [Region.wanted, hgd]
  rw [if_pos hw]
  obtain ⟨v', w', hrun, r1, r2, r3⟩ := run_append_own (P := P) w base t o.type e i z size bytes ht hi hz hsize hby hzs hsz v n xs hown ad 1 1 C.toList (by simp [hC]) hcell h1 h63 hbytes hbase
  unfold Oper.wp
  simp [execOp, ho, resolve, invoke, builtin, hs, hx, hrun, Result.andThen]
  exact hK v' w' r1 r2 ((Below.refl _ _).grown r2 hbase fun k hk => (hown.lt k hk).1)
theorem hone_itT (y : It) : ∀ u ∈ (#[.string y.p, .int .i64 y.id, .int .i64 y.sz, .string y.sm] : Array Value).toList, u.oneCell' = true := fun u hu => by
  simp at hu
  rcases hu with rfl | rfl | rfl | rfl <;> rfl
/-- Behind Take: an index and an error. -/
def XTakeEnd (O : Int × List It) (w : World) (e : Ending) (w' : World) : Prop :=
  ∃ A c, e = .returned (.tuple #[.agg #[.slice A O.2.length c], .int .i64 O.1]) ∧ O.2.length ≤ c ∧ c ≤ maxLen ∧ Rd w' A (itf O.2) ∧ Below w.heap.size w w'
/-- Behind the first number. -/
def InitT (w : World) (s0 s1 : ByteArray) (n0 : Int) (O : Int × List It) (vn : Value) (wx : World) : Prop :=
  vn = .int .i64 n0 ∧ ∃ e, Bk wx w.heap.size 25 #[.slice none 0 0] ∧ Bk wx (w.heap.size + 1) 86 #[.string s1, .int .i64 e] ∧ Below w.heap.size w wx ∧ ((e ≠ 0 ∧ O = (e, [])) ∨ (e = 0 ∧ ∃ N : Nat, n0 = (N : Int) ∧ N ≤ 512 ∧ TkX s0 O N ⟨#[]⟩ s1 0 []))
/-- Behind the loop. -/
def PostT (w : World) (s0 : ByteArray) (O : Int × List It) (xb : Nat) (wx : World) : Prop :=
  ∃ (A : Option Addr) (k c : Nat) (acc : List It) (s : ByteArray) (e : Int), TkW w xb (.slice A k c) k acc s e wx ∧ acc.length = k ∧ k ≤ c ∧ c ≤ maxLen ∧ k ≤ 512 ∧ Rd wx A (itf acc) ∧ ((e ≠ 0 ∧ O = (e, [])) ∨ (e = 0 ∧ O = finX s0.toList (0, acc, s.toList) ∧ (putX acc = s0.toList → s = ⟨#[]⟩) ∧ ∀ y ∈ acc, y.p.size ≤ 1000000 ∧ y.sm.size ≤ 1000000))
theorem TkX.post {s0 last s : ByteArray} {O : Int × List It} {acc : List It} (h : TkX s0 O 0 last s 0 acc) : O = finX s0.toList (0, acc, s.toList) ∧ (putX acc = s0.toList → s = ⟨#[]⟩) ∧ ∀ y ∈ acc, y.p.size ≤ 1000000 ∧ y.sm.size ≤ 1000000 := by
  rcases h with ⟨h, _⟩ | ⟨_, hO, _, n0, r, q1, q2⟩
  · exact absurd rfl h
  · rw [tkI] at hO q2
    refine ⟨hO, fun hp => ?_, ?_⟩
    · have := rest_nil q1 (by rw [← q2]) (by rw [← q2]; exact hp)
      rw [← q2] at this
      exact str_eq (by rw [toList_nil]; exact this)
    · obtain ⟨l, e1, _, e3⟩ := tkI_only n0 [] r [] (by rw [← q2])
      rw [← q2, List.nil_append] at e1
      simp only at e1
      subst e1
      intro y hy
      have hm := e3.may y hy
      have h1 := (okP_le hm.1).2
      rw [size_toList] at h1
      have h2 := hm.2.2.2.2.2
      omega

set_option maxRecDepth 20000 in
set_option maxHeartbeats 8000000 in
theorem xtake_any (s0 : ByteArray) (hs0 : s0.size ≤ 1000000000) (O : Int × List It) (hO : takeX s0.toList = O) (w : World) :
    Calls Try.prog 22 #[.string s0] w (XTakeEnd O w) := by
  have mixed : Try.prog.follows Departure.mixedOrders = true := by kernel_rfl
  obtain ⟨w2, hw2⟩ : ∃ w2, (w.alloc (.cells #[.slice none 0 0] 25)).alloc (.cells #[.string s0, .int .i64 0] 86) = w2 := ⟨_, rfl⟩
  have hb2 : Below w.heap.size w w2 := by rw [← hw2]; exact ((Below.refl _ w).alloc (Nat.le_refl _) _).alloc (by simp only [World.size_alloc]; omega) _
  have hk0 : Bk w2 w.heap.size 25 #[.slice none 0 0] := by rw [← hw2]; exact (Bk.new w _ _).alloc _
  have hk1 : Bk w2 (w.heap.size + 1) 86 #[.string s0, .int .i64 0] := by
    rw [← hw2]
    have := Bk.new (w.alloc (.cells #[.slice none 0 0] 25)) 86 #[.string s0, .int .i64 0]
    rwa [World.size_alloc] at this
  have hs2 : w2.heap.size = w.heap.size + 2 := by rw [← hw2]; simp
  obtain ⟨n0, s1, e1, h1⟩ : ∃ n0 s1 e1, numS s0 0 = (n0, s1, e1) := ⟨_, _, _, rfl⟩
  have hsz1 := numS_size s0 0
  rw [h1] at hsz1
  simp only at hsz1
  have H2 := Lib.hid (And.intro hb2 (And.intro hk0 (And.intro hk1 (And.intro hs2 (And.intro h1 hO)))))
  have HW2 := Lib.hid hw2
  clear hb2 hk0 hk1 hs2 h1 hw2 hO
  go_enter Try.func22, Try.ntmps22
  go_upto_region 2 with (fail)
  rw [HW2.out]
  clear HW2
  go_wp2_with fail
  refine (num_any (w.heap.size + 1) s0 0 n0 s1 e1 H2.out.2.2.2.2.1 hs0 w2 H2.out.2.2.1).mono ?_
  rintro en w3 ⟨rfl, hk3, hg3⟩
  have hk30 := H2.out.2.1.only hg3 (by omega)
  have hb3 : Below w.heap.size w w3 := H2.out.1.trans (below_only hg3 (by omega) H2.out.1.size)
  have hst : (e1 ≠ 0 ∧ O = (e1, [])) ∨ (e1 = 0 ∧ ∃ (N : Nat) (r : List UInt8), n0 = (N : Int) ∧ takeN s0.toList = some (N, r) ∧ s1 = ofL r) := by
    have h1 := H2.out.2.2.2.2.1
    have hO := H2.out.2.2.2.2.2
    unfold takeX at hO
    rcases numS_cases s0 with ⟨k1, k2⟩ | ⟨N, r, k1, k2⟩
    · rw [k1] at h1
      simp only [Prod.mk.injEq] at h1
      rw [k2] at hO
      obtain ⟨_, _, rfl⟩ := h1
      exact .inl ⟨by decide, hO.symm⟩
    · rw [k1] at h1
      simp only [Prod.mk.injEq] at h1
      exact .inr ⟨h1.2.2.symm, N, r, h1.1.symm, k2, h1.2.1.symm⟩
  have H3 := Lib.hid (And.intro hk3 (And.intro hk30 (And.intro hb3 hst)))
  have c0 := hk3.cell_ 0 (.string s1) rfl
  have c1 := hk3.cell_ 1 (.int .i64 e1) rfl
  have y1 := hk3.frozen 1
  clear hk3 hg3 hk30 hb3 hst
  go_upto_region 3 with (fail)
  go_cut [24] from 11 (fun vb wx => w3 = wx ∧ vb = .bool (decide (e1 = 0 ∧ 512 < n0)))
  case first =>
    by_cases he : e1 = 0
    · subst he
      by_cases h51 : (512 : Int) < n0
      · have hd := Lib.hid (decide_eq_true (And.intro (rfl : (0 : Int) = 0) h51))
        go_wp2_with fail
        go_meet
        exact ⟨rfl, by rw [hd.out]⟩
      · have hd := Lib.hid (decide_eq_false (fun h : (0 : Int) = 0 ∧ 512 < n0 => h51 h.2))
        go_wp2_with fail
        go_meet
        exact ⟨rfl, by rw [hd.out]⟩
    · have e0 : (e1 == 0) = false := by simp [he]
      have hd := Lib.hid (decide_eq_false (fun h : e1 = 0 ∧ 512 < n0 => he h.1))
      clear he
      go_wp2_with fail
      go_meet
      exact ⟨rfl, by rw [hd.out]⟩
  case rest =>
  obtain ⟨rfl, rfl⟩ := hcut
  go_upto_if 24 with (fail)
  go_cut [5] from 11 (fun vn wx => InitT w s0 s1 n0 O vn wx)
  case first =>
    have hst := H3.out.2.2.2
    rcases hst with ⟨he, hOe⟩ | ⟨he, N, r, hN, hr, hsr⟩
    · have e0 : (e1 == 0) = false := by simp [he]
      have HE := Lib.hid (And.intro he hOe)
      rw [decide_eq_false (fun h : e1 = 0 ∧ 512 < n0 => he h.1)]
      clear he hOe
      go_wp2_with fail
      go_meet
      exact ⟨rfl, e1, H3.out.2.1, H3.out.1, H3.out.2.2.1, .inl HE.out⟩
    · subst he
      have hO := H2.out.2.2.2.2.2
      unfold takeX at hO
      rw [hr] at hO
      simp only at hO
      by_cases h512 : 512 < N
      · rw [if_pos h512] at hO
        have HE := Lib.hid (And.intro hO hN)
        have h51 : (512 : Int) < n0 := by omega
        rw [decide_eq_true (And.intro (rfl : (0 : Int) = 0) h51)]
        clear hO hN hr hsr
        go_wp2_with fail
        go_meet
        have hg := only_set w3 (w.heap.size + 1) 1 (.int .i64 3)
        exact ⟨rfl, 3, H3.out.2.1.only hg (by omega), H3.out.1.set_ 1 _, H3.out.2.2.1.setCell (p := ⟨w.heap.size + 1, 1, none⟩) (show w.heap.size ≤ w.heap.size + 1 by omega) _, .inl ⟨by decide, HE.out.1.symm⟩⟩
      · rw [if_neg h512] at hO
        have h51 : ¬ ((512 : Int) < n0) := by omega
        have HE := Lib.hid (show TkX s0 O N ⟨#[]⟩ s1 0 [] from .inr ⟨rfl, by rw [toList_nil, hsr, toList_ofL]; exact hO.symm, fun _ => rfl, N, r, hr, by rw [toList_nil, hsr, toList_ofL]⟩)
        have HN := Lib.hid hN
        rw [decide_eq_false (fun h : (0 : Int) = 0 ∧ 512 < n0 => h51 h.2)]
        clear hO hN hr hsr
        go_wp2_with fail
        go_meet
        exact ⟨rfl, 0, H3.out.2.1, H3.out.1, H3.out.2.2.1, .inr ⟨rfl, N, HN.out, by omega, HE.out⟩⟩
  case rest =>
    obtain ⟨rfl, e, hk0, hk1, hbc, hst⟩ := hcut
    obtain ⟨xb, hxb⟩ : ∃ xb, wc.heap.size = xb := ⟨_, rfl⟩
    obtain ⟨w4, hw4⟩ : ∃ w4, wc.alloc (.cells #[.slice none 0 0] 25) = w4 := ⟨_, rfl⟩
    have hb4 : Below wc.heap.size wc w4 := by rw [← hw4]; exact (Below.refl _ _).alloc (Nat.le_refl _) _
    have hk4 : Bk w4 xb 25 #[.slice none 0 0] := by rw [← hw4, ← hxb]; exact Bk.new _ _ _
    have H4 := Lib.hid (show TkW w xb (.slice none 0 0) 0 [] s1 e w4 from ⟨hk0.below' hb4, hk1.below' hb4, hk4, ⟨rfl, Or.inl ⟨rfl, rfl⟩⟩, by have := hk1.lt; omega, bl hbc hb4⟩)
    have HW4 := Lib.hid (And.intro hw4 hxb)
    have HST := Lib.hid hst
    clear hk0 hk1 hbc hst hb4 hk4 hw4 c0 c1 y1
    go_upto_block 0 with (fail)
    rw [HW4.out.1]
    clear HW4 hxb
    go_cut [5, 7, 8, 9, 10] from 28 (fun _ _ _ _ _ wx => PostT w s0 O xb wx)
    case first =>
      go_wp2_with fail
      go_loopw [5, 7] (fun vn vl wr => ∃ (nn : Int) (last s : ByteArray) (e : Int) (A : Option Addr) (k c : Nat) (acc : List It), vn = .int .i64 nn ∧ vl = .string last ∧ k ≤ c ∧ c ≤ maxLen ∧ s.size ≤ 1000000000 ∧ Hid (acc.length = k ∧ True) ∧ Hid (TkW w xb (.slice A k c) k acc s e wr) ∧ ((e ≠ 0 ∧ k ≤ 512 ∧ Hid (O = (e, []) ∧ True)) ∨ (e = 0 ∧ ∃ N : Nat, nn = (N : Int) ∧ k + N ≤ 512 ∧ last.size ≤ 1000000000 ∧ Hid (TkX s0 O N last s 0 acc)))) (fun vn _ _ => iOfI vn)
      case atStart =>
        refine ⟨n0, ⟨#[]⟩, s1, e, none, 0, 0, [], rfl, rfl, by omega, by unfold maxLen; omega, by omega, Lib.hid ⟨rfl, trivial⟩, H4, ?_⟩
        rcases HST.out with ⟨h, h2⟩ | ⟨h, N, h2, h3, h4⟩
        · exact .inl ⟨h, by omega, Lib.hid ⟨h2, trivial⟩⟩
        · exact .inr ⟨h, N, h2, by omega, by decide, Lib.hid h4⟩
      case round =>
        clear H4 HST
        obtain ⟨nn, last, s, e, A, k, c, acc, rfl, rfl, hkc, hcm, hsz, HK, HW, hst⟩ := hrel
        have hrow : Rd wr A (itf acc) := by
          obtain ⟨_, A8, c8, h8, _, _, hrow⟩ := Sl.own HW.out.2.2.2.1
          cases h8
          exact hrow
        have HROW := Lib.hid hrow
        clear hrow
        have t1 := HW.out.2.1.cell_ 1 (.int .i64 e) rfl
        rcases hst with ⟨he, hk512, hOe⟩ | ⟨he, N, hN, hkN, hlz, hT⟩
        · have e0 : (e == 0) = false := by simp [he]
          have HE := Lib.hid he
          clear he
          by_cases hn0 : (0 : Int) < nn
          · go_wp2_with fail
            go_meet
            exact ⟨A, k, c, acc, s, e, HW.out, HK.out.1, hkc, hcm, hk512, HROW.out, .inl ⟨HE.out, hOe.out.1⟩⟩
          · go_wp2_with fail
            go_meet
            exact ⟨A, k, c, acc, s, e, HW.out, HK.out.1, hkc, hcm, hk512, HROW.out, .inl ⟨HE.out, hOe.out.1⟩⟩
        · subst he
          cases N with
          | zero =>
            subst hN
            go_wp2_with fail
            go_meet
            exact ⟨A, k, c, acc, s, 0, HW.out, HK.out.1, hkc, hcm, by omega, HROW.out, .inr ⟨rfl, hT.out.post⟩⟩
          | succ m =>
            have hn1 : (0 : Int) < nn := by omega
            have HN := Lib.hid hN
            obtain ⟨cI, s1', e1', h1⟩ : ∃ a b c, numS s 0 = (a, b, c) := ⟨_, _, _, rfl⟩
            obtain ⟨p, s2, e2, h2⟩ : ∃ a b c, textS s1' e1' 4096 = (a, b, c) := ⟨_, _, _, rfl⟩
            obtain ⟨idI, s3, e3, h3⟩ : ∃ a b c, numS s2 e2 = (a, b, c) := ⟨_, _, _, rfl⟩
            obtain ⟨szI, s4, e4, h4⟩ : ∃ a b c, numS s3 e3 = (a, b, c) := ⟨_, _, _, rfl⟩
            obtain ⟨sm, s5, e5, h5⟩ : ∃ a b c, sumS s4 e4 = (a, b, c) := ⟨_, _, _, rfl⟩
            have z1 := numS_size s 0
            have z2 := textS_size s1' e1' 4096
            have z3 := numS_size s2 e2
            have z4 := numS_size s3 e3
            have z5 := sumS_size s4 e4
            rw [h1] at z1
            rw [h2] at z2
            rw [h3] at z3
            rw [h4] at z4
            rw [h5] at z5
            simp only at z1 z2 z3 z4 z5
            obtain ⟨z2a, z2b⟩ := z2
            have HS := Lib.hid (And.intro h1 (And.intro h2 (And.intro h3 (And.intro h4 h5))))
            have HZ := Lib.hid (show s1'.size ≤ 1000000000 ∧ s2.size ≤ 1000000000 ∧ s3.size ≤ 1000000000 ∧ s4.size ≤ 1000000000 ∧ s5.size ≤ 1000000000 ∧ p.size ≤ 1000000000 from ⟨by omega, by omega, by omega, by omega, by omega, by omega⟩)
            clear h1 h2 h3 h4 h5 z1 z2a z2b z3 z4 z5 hN
            go_wp2_with fail
            refine (num_any (w.heap.size + 1) s 0 cI s1' e1' HS.out.1 hsz wr HW.out.2.1).mono ?_
            rintro en w5 ⟨rfl, hk5, hg5⟩
            have HW5 := Lib.hid (HW.out.step hk5 hg5)
            clear hk5 hg5 t1
            go_wp2_with fail
            refine (text_any (w.heap.size + 1) s1' e1' 4096 p s2 e2 HS.out.2.1 HZ.out.1 w5 HW5.out.2.1).mono ?_
            rintro en w6 ⟨rfl, hk6, hg6⟩
            have HW6 := Lib.hid (HW5.out.step hk6 hg6)
            clear hk6 hg6
            go_wp2_with fail
            refine (num_any (w.heap.size + 1) s2 e2 idI s3 e3 HS.out.2.2.1 HZ.out.2.1 w6 HW6.out.2.1).mono ?_
            rintro en w7 ⟨rfl, hk7, hg7⟩
            have HW7 := Lib.hid (HW6.out.step hk7 hg7)
            clear hk7 hg7
            go_wp2_with fail
            refine (num_any (w.heap.size + 1) s3 e3 szI s4 e4 HS.out.2.2.2.1 HZ.out.2.2.1 w7 HW7.out.2.1).mono ?_
            rintro en w8 ⟨rfl, hk8, hg8⟩
            have HW8 := Lib.hid (HW7.out.step hk8 hg8)
            clear hk8 hg8
            go_wp2_with fail
            refine (sum_any (w.heap.size + 1) s4 e4 sm s5 e5 HS.out.2.2.2.2 HZ.out.2.2.2.1 w8 HW8.out.2.1).mono ?_
            rintro en w9 ⟨rfl, hk9, hg9⟩
            have hW9 := HW8.out.step hk9 hg9
            obtain ⟨ab, hab⟩ : ∃ ab, w9.heap.size = ab := ⟨_, rfl⟩
            obtain ⟨w10, hw10⟩ : ∃ w10, w9.alloc (.cells #[.string ⟨#[]⟩, .int .i64 idI, .int .i64 szI, .string sm] 46) = w10 := ⟨_, rfl⟩
            have hb10 : Below w9.heap.size w9 w10 := by rw [← hw10]; exact (Below.refl _ _).alloc (Nat.le_refl _) _
            have hk10 : Bk w10 ab 46 #[.string ⟨#[]⟩, .int .i64 idI, .int .i64 szI, .string sm] := by rw [← hw10, ← hab]; exact Bk.new _ _ _
            have hoff : (Value.slice A k c).ownBlock ≠ some ab := fun hv => by have := (hW9.2.2.2.1.lt ab hv).2; omega
            have hxa : xb < ab := by have := hW9.2.2.1.lt; omega
            have HW10 := Lib.hid (And.intro (hW9.below hb10) (And.intro hk10 hoff))
            have HE10 := Lib.hid (And.intro hw10 hab)
            have t10 := HW10.out.1.2.1.cell_ 1 (.int .i64 e5) rfl
            clear hk9 hg9 hW9 hb10 hk10 hoff hw10
            go_upto_region 12 with (fail)
            rw [HE10.out.1]
            try rw [HE10.out.2]
            clear HE10 hab
            have hlaw := oneS_law HS.out.1 HS.out.2.1 HS.out.2.2.1 HS.out.2.2.2.1 HS.out.2.2.2.2
            rcases hlaw with ⟨he5, hone⟩ | ⟨he5, hone, hc0, hid0, hsz0⟩
            · have e0 : (e5 == 0) = false := by simp [he5]
              have e1 : (e5 != 0) = true := by simp [he5]
              have HO := Lib.hid (And.intro he5 (hT.out.bad hone he5))
              have hrow10 : Rd w10 A (itf acc) := by
                obtain ⟨_, A8, c8, h8, _, _, hrow⟩ := Sl.own HW10.out.1.2.2.2.1
                cases h8
                exact hrow
              have HR10 := Lib.hid hrow10
              clear he5 hone hrow10
              go_wp2_with fail
              go_meet
              exact ⟨A, k, c, acc, s5, e5, HW10.out.1, HK.out.1, hkc, hcm, by omega, HR10.out, .inl HO.out⟩
            · subst he5
              obtain ⟨cn, rfl⟩ : ∃ cn : Nat, cI = (cn : Int) := ⟨cI.toNat, by omega⟩
              obtain ⟨idn, rfl⟩ : ∃ cn : Nat, idI = (cn : Int) := ⟨idI.toNat, by omega⟩
              obtain ⟨szn, rfl⟩ : ∃ cn : Nat, szI = (cn : Int) := ⟨szI.toNat, by omega⟩
              simp only [Int.toNat_natCast] at hone
              have HONE := Lib.hid hone
              clear hone hc0 hid0 hsz0 HS
              go_upto_if 58 with (fail)
              have HOFF := Lib.hid HW10.out.2.2
              go_cut [58] from 28 to 102 (fun _ wx => ∃ ap : ByteArray, TkW w xb (.slice A k c) k acc s5 0 wx ∧ Bk wx ab 46 #[.string ap, .int .i64 (idn : Nat), .int .i64 (szn : Nat), .string sm] ∧ ap.size ≤ 2000000000 ∧ ((cn ≤ last.size ∧ ap.toList = last.toList.take cn ++ p.toList) ∨ (last.size < cn ∧ ap = ⟨#[]⟩)))
              case first =>
                by_cases hc : cn ≤ last.size
                · have hc1 : (cn : Int) ≤ (last.size : Int) := by omega
                  obtain ⟨lp, hlp⟩ : ∃ lp, last.extract 0 cn = lp := ⟨_, rfl⟩
                  obtain ⟨ap, hap⟩ : ∃ ap, lp ++ p = ap := ⟨_, rfl⟩
                  have hlpz : lp.size ≤ 1000000000 := by rw [← hlp, ByteArray.size_extract]; omega
                  have hpz := HZ.out.2.2.2.2.2
                  have HAP := Lib.hid (show ap.size ≤ 2000000000 ∧ ap.toList = last.toList.take cn ++ p.toList from ⟨by rw [← hap, ByteArray.size_append]; omega, by rw [← hap, toList_app, ← hlp, toList_pre]⟩)
                  have hcat : ¬ (9223372036854775807 < lp.size + p.size) := by omega
                  have d0 := HW10.out.2.1.cell_ 0 (.string ⟨#[]⟩) rfl
                  have y0 := HW10.out.2.1.frozen 0
                  go_wp2_with fail
                  go_meet
                  exact ⟨ap, HW10.out.1.far hxa HW10.out.2.2 0 _, HW10.out.2.1.set_ 0 _, HAP.out.1, .inl ⟨hc, HAP.out.2⟩⟩
                · have hc1 : ¬ ((cn : Int) ≤ (last.size : Int)) := by omega
                  go_wp2_with fail
                  go_meet
                  exact ⟨⟨#[]⟩, HW10.out.1, HW10.out.2.1, by decide, .inr ⟨by omega, rfl⟩⟩
              case rest =>
                obtain ⟨ap, hw11, hk11, hapz, hapc⟩ := hcut
                obtain ⟨w11, rfl⟩ : ∃ w11, w11 = wc := ⟨_, rfl⟩
                have hnx := TkX.next (sm := sm) (szn := szn) hT.out HONE.out (ap := ap) (fun h => by
                  rcases hapc with ⟨_, h2⟩ | ⟨h2, _⟩
                  · exact h2
                  · omega)
                have hbad : (last.size < cn → okP ap ≠ 0) := fun h => by
                  rcases hapc with ⟨h2, _⟩ | ⟨_, h2⟩
                  · omega
                  · rw [h2, okP_bad (fun h => h.1 toList_nil)]; decide
                have hlast : acc = [] → last = ⟨#[]⟩ := by
                  rcases hT.out with ⟨h, _⟩ | ⟨_, _, h, _⟩
                  · exact absurd rfl h
                  · exact h
                have HX := Lib.hid (And.intro hnx (And.intro hbad hlast))
                have HW11 := Lib.hid (And.intro hw11 hk11)
                have a0 := hk11.cell_ 0 (.string ap) rfl
                obtain ⟨ek, hek⟩ : ∃ ek, okP ap = ek := ⟨_, rfl⟩
                obtain ⟨kc, hkcm⟩ : ∃ kc, cmpB last ap = kc := ⟨_, rfl⟩
                have HEK := Lib.hid (And.intro hek hkcm)
                clear hapc hnx hbad hlast hw11 hk11 hek hkcm HW10 t10 HONE HW HW5 HW6 HW7 HW8 HROW
                go_upto_region 15 with (fail)
                go_cut [91] from 28 to 102 (fun vb wx => ∃ b : Bool, vb = .bool b ∧ (b = true ↔ BadX last cn ap (idn : Int)) ∧ Below w11.heap.size w11 wx)
                case first =>
                  by_cases hk0 : ek = 0
                  · subst hk0
                    by_cases hi1 : (idn : Int) < 1
                    · have HB := Lib.hid (show BadX last cn ap (idn : Int) from .inr (.inr (.inl hi1)))
                      go_wp2_with fail
                      refine (checkX_is ap 0 HEK.out.1 w11 (by omega)).mono ?_
                      rintro en w12 ⟨rfl, hb12⟩
                      have i1 := (HW11.out.2.below' hb12).cell_ 1 (.int .i64 (idn : Nat)) rfl
                      have HB12 := Lib.hid hb12
                      clear hb12 a0
                      go_wp2_with fail
                      go_meet
                      exact ⟨true, rfl, ⟨fun _ => HB.out, fun _ => rfl⟩, HB12.out⟩
                    · by_cases hi2 : (4294967295 : Int) < (idn : Int)
                      · have HB := Lib.hid (show BadX last cn ap (idn : Int) from .inr (.inr (.inr (.inl hi2))))
                        go_wp2_with fail
                        refine (checkX_is ap 0 HEK.out.1 w11 (by omega)).mono ?_
                        rintro en w12 ⟨rfl, hb12⟩
                        have i1 := (HW11.out.2.below' hb12).cell_ 1 (.int .i64 (idn : Nat)) rfl
                        have HB12 := Lib.hid hb12
                        clear hb12 a0
                        go_wp2_with fail
                        go_meet
                        exact ⟨true, rfl, ⟨fun _ => HB.out, fun _ => rfl⟩, HB12.out⟩
                      · have hcn : ¬ last.size < cn := fun h => HX.out.2.1 h HEK.out.1
                        have HCN := Lib.hid hcn
                        clear hcn
                        by_cases hk0 : k = 0
                        · have HB := Lib.hid (show ¬ BadX last cn ap (idn : Int) from by
                            have hl := HX.out.2.2 (List.eq_nil_of_length_eq_zero (by rw [HK.out.1]; exact hk0))
                            have hne := (okP_le HEK.out.1).1
                            rintro (h | h | h | h | h)
                            · exact HCN.out h
                            · exact h HEK.out.1
                            · exact hi1 h
                            · exact hi2 h
                            · refine h ?_
                              rw [hl, toList_nil]
                              cases hap : ap.toList with
                              | nil => exact absurd hap hne
                              | cons x l => exact List.nil_lt_cons x l)
                          subst hk0
                          go_wp2_with fail
                          refine (checkX_is ap 0 HEK.out.1 w11 (by omega)).mono ?_
                          rintro en w12 ⟨rfl, hb12⟩
                          have i1 := (HW11.out.2.below' hb12).cell_ 1 (.int .i64 (idn : Nat)) rfl
                          have x0 := (HW11.out.1.2.2.1.below' hb12).cell_ 0 (.slice A 0 c) rfl
                          have HB12 := Lib.hid hb12
                          clear hb12 a0
                          go_wp2_with fail
                          go_meet
                          exact ⟨false, by simp; omega, ⟨(fun h => by cases h), fun h => absurd h HB.out⟩, HB12.out⟩
                        · have hkp : (0 : Int) < (k : Int) := by omega
                          have hkp2 : 0 < k := by omega
                          have HB := Lib.hid (show 0 ≤ kc ↔ BadX last cn ap (idn : Int) from by
                            have q := cmp_lt last ap
                            rw [HEK.out.2] at q
                            constructor
                            · intro h
                              exact .inr (.inr (.inr (.inr fun h2 => by have := q.2 h2; omega)))
                            · rintro (h | h | h | h | h)
                              · exact absurd h HCN.out
                              · exact absurd HEK.out.1 h
                              · exact absurd h hi1
                              · exact absurd h hi2
                              · exact Int.not_lt.1 fun h2 => h (q.1 h2))
                          go_wp2_with fail
                          refine (checkX_is ap 0 HEK.out.1 w11 (by omega)).mono ?_
                          rintro en w12 ⟨rfl, hb12⟩
                          have i0 := (HW11.out.2.below' hb12).cell_ 0 (.string ap) rfl
                          have i1 := (HW11.out.2.below' hb12).cell_ 1 (.int .i64 (idn : Nat)) rfl
                          have x0 := (HW11.out.1.2.2.1.below' hb12).cell_ 0 (.slice A k c) rfl
                          have HB12 := Lib.hid hb12
                          clear hb12 a0
                          go_wp2_with fail
                          refine (compare_any last ap _).mono ?_
                          rw [HEK.out.2]
                          rintro en w13 ⟨rfl, rfl⟩
                          by_cases hkc0 : 0 ≤ kc
                          · have HB2 := Lib.hid (HB.out.1 hkc0)
                            go_wp2_with fail
                            go_meet
                            exact ⟨true, by simp [hkc0], ⟨fun _ => HB2.out, fun _ => rfl⟩, HB12.out⟩
                          · have HB2 := Lib.hid (fun h => hkc0 (HB.out.2 h))
                            go_wp2_with fail
                            go_meet
                            exact ⟨false, by simp [hkc0]; omega, ⟨(fun h => by cases h), fun h => absurd h HB2.out⟩, HB12.out⟩
                  · have HB := Lib.hid (show BadX last cn ap (idn : Int) from .inr (.inl (by rw [HEK.out.1]; exact hk0)))
                    have e0 : (ek == 0) = false := by simp [hk0]
                    have e1 : (ek != 0) = true := by simp [hk0]
                    clear hk0
                    go_wp2_with fail
                    refine (checkX_is ap ek HEK.out.1 w11 (by omega)).mono ?_
                    rintro en w12 ⟨rfl, hb12⟩
                    have HB12 := Lib.hid hb12
                    clear hb12 a0
                    go_wp2_with fail
                    go_meet
                    exact ⟨true, rfl, ⟨fun _ => HB.out, fun _ => rfl⟩, HB12.out⟩
                case rest =>
                  obtain ⟨b, rfl, hbb, hb12⟩ := hcut
                  obtain ⟨w12, rfl⟩ : ∃ w12, w12 = wc := ⟨_, rfl⟩
                  have HB := Lib.hid hbb
                  have HW12 := Lib.hid (And.intro (HW11.out.1.below hb12) (HW11.out.2.below' hb12))
                  clear hbb hb12 a0
                  go_upto_if 91 with (fail)
                  go_cut [91] from 28 to 102 (fun _ wx => ∃ e6 : Int, (b = true → e6 = 2) ∧ (b = false → e6 = 0) ∧ TkW w xb (.slice A k c) k acc s5 e6 wx ∧ Bk wx ab 46 #[.string ap, .int .i64 (idn : Nat), .int .i64 (szn : Nat), .string sm])
                  case first =>
                    cases b with
                    | true =>
                      have t1 := HW12.out.1.2.1.cell_ 1 (.int .i64 0) rfl
                      have y1 := HW12.out.1.2.1.frozen 1
                      have hab1 : ab ≠ w.heap.size + 1 := by have := HW12.out.1.2.2.2.2.1; omega
                      have HAB := Lib.hid hab1
                      clear hab1
                      go_wp2_with fail
                      go_meet
                      exact ⟨2, (fun _ => rfl), (fun h => by cases h), HW12.out.1.setE 2, HW12.out.2.only (only_set _ _ _ _) HAB.out⟩
                    | false =>
                      go_wp2_with fail
                      go_meet
                      exact ⟨0, (fun h => by cases h), (fun _ => rfl), HW12.out.1, HW12.out.2⟩
                  case rest =>
                    obtain ⟨e6, he2, he0, hw13, hk13⟩ := hcut
                    obtain ⟨w13, rfl⟩ : ∃ w13, w13 = wc := ⟨_, rfl⟩
                    obtain ⟨u, hu⟩ : ∃ u, w13.heap.size = u := ⟨_, rfl⟩
                    have x0 := hw13.2.2.1.cell_ 0 (.slice A k c) rfl
                    have fx := hw13.2.2.1.frozen 0
                    have a0 := hk13.cell_ 0 (.string ap) rfl
                    have a1 := hk13.cell_ 1 (.int .i64 (idn : Nat)) rfl
                    have a2 := hk13.cell_ 2 (.int .i64 (szn : Nat)) rfl
                    have a3 := hk13.cell_ 3 (.string sm) rfl
                    have HE6 := Lib.hid (And.intro he2 he0)
                    have hone := hone_itT ⟨ap, (idn : Nat), (szn : Nat), sm⟩
                    have hcell : ∀ j u', (#[.string ap, .int .i64 (idn : Nat), .int .i64 (szn : Nat), .string sm] : Array Value).toList[j]? = some u' → (w13.alloc (.cells #[.string ap, .int .i64 (idn : Nat), .int .i64 (szn : Nat), .string sm] 46)).drew.cell? ((⟨w13.heap.size, 0, none⟩ : Addr).add j) = some u' := fun j u' hj => by
                      show (w13.alloc (.cells #[.string ap, .int .i64 (idn : Nat), .int .i64 (szn : Nat), .string sm] 46)).cell? _ = _
                      rw [add_mk, World.cell?_alloc_mark]
                      simpa using hj
                    have hxb : xb + 1 ≤ w13.heap.size := hw13.2.2.1.lt
                    have H13 := Lib.hid (And.intro hw13 (And.intro hk13 (And.intro hu (And.intro hone (And.intro hcell (And.intro (show (w13.alloc (.cells #[.string ap, .int .i64 (idn : Nat), .int .i64 (szn : Nat), .string sm] 46)).drew.ownsRow (xb + 1) 46 4 (.slice A k c) k (itf acc) from hw13.2.2.2.1.alloc (.cells #[.string ap, .int .i64 (idn : Nat), .int .i64 (szn : Nat), .string sm] 46)) ((Below.refl (xb + 1) w13).alloc hxb (.cells #[.string ap, .int .i64 (idn : Nat), .int .i64 (szn : Nat), .string sm] 46)).drew))))))
                    have b0 := (hk13.alloc (.cells #[.string ap, .int .i64 (idn : Nat), .int .i64 (szn : Nat), .string sm] 46)).cell_ 0 (.string ap) rfl
                    have bx := (hw13.2.2.1.alloc (.cells #[.string ap, .int .i64 (idn : Nat), .int .i64 (szn : Nat), .string sm] 46)).cell_ 0 (.slice A k c) rfl
                    have bf := (hw13.2.2.1.alloc (.cells #[.string ap, .int .i64 (idn : Nat), .int .i64 (szn : Nat), .string sm] 46)).frozen 0
                    clear he2 he0 hw13 hk13 hu HW11 HW12 hone hcell
                    go_upto_region 17 with (fail)
                    go_region_law (refine step_append_gb rfl (.tmp 96) (.tmp 98) 23 rfl (xb + 1) 46 4 48 el_item (.slice A k c) k (itf acc) H13.out.2.2.2.2.2.1 (by simp [Act.eval, Act.put]) #[.string ap, .int .i64 (idn : Nat), .int .i64 (szn : Nat), .string sm] ⟨w13.heap.size, 0, none⟩ (by simp [Act.eval, Act.put]) H13.out.2.2.2.2.1 rfl H13.out.2.2.2.1 (by unfold maxLen; omega) (by omega) (by simp; omega) ?_; intro v15 w15 ho15 hg15 hb15; obtain ⟨_, A2, c2, rfl, hc2, hm2, _⟩ := Sl.own ho15; have hk15 := ((H13.out.2.1.alloc (.cells #[.string ap, .int .i64 (idn : Nat), .int .i64 (szn : Nat), .string sm] 46)).drew.onlyV hg15 HOFF.out); have a0' := hk15.cell_ 0 (.string ap) rfl; have hx15 := ((H13.out.1.2.2.1.alloc (.cells #[.string ap, .int .i64 (idn : Nat), .int .i64 (szn : Nat), .string sm] 46)).drew.below hb15 (Nat.lt_succ_self xb)); have x0' := hx15.cell_ 0 (.slice A k c) rfl; have fx' := hx15.frozen 0)
                    all_goals
                      go_wp2_with fail
                      have hnm := HN.out
                      have hwr : wrap64 (nn - 1) = (m : Int) := by unfold wrap64; omega
                      refine ⟨⟨wrap64 (nn - 1), ap, s5, e6, A2, k + 1, c2, acc ++ [⟨ap, (idn : Nat), (szn : Nat), sm⟩], rfl, rfl, hc2, hm2, HZ.out.2.2.2.2.1, Lib.hid ⟨by rw [List.length_append, HK.out.1]; rfl, trivial⟩, Lib.hid (H13.out.1.putX (H13.out.2.2.2.2.2.2.trans hb15) (by rw [itf_app]; exact ho15)), ?_⟩, by rw [hwr, hnm]; simp [iOfI]⟩
                      cases b with
                      | true =>
                        have h62 := HE6.out.1 rfl
                        exact .inl ⟨by rw [h62]; decide, by omega, Lib.hid ⟨by rw [h62]; exact HX.out.1.1 (HB.out.1 rfl), trivial⟩⟩
                      | false =>
                        have h60 := HE6.out.2 rfl
                        have hnb : ¬ BadX last cn ap (idn : Int) := fun h => by have := HB.out.2 h; cases this
                        have hok : okP ap = 0 := Decidable.not_not.1 fun h => hnb (.inr (.inl h))
                        have hz := (okP_le hok).2
                        rw [size_toList] at hz
                        exact .inr ⟨h60, m, hwr, by omega, by omega, Lib.hid (HX.out.1.2 hnb)⟩
    case rest =>
      clear H4 HST
      obtain ⟨w20, rfl⟩ : ∃ w20, w20 = wc := ⟨_, rfl⟩
      obtain ⟨A, k, c, acc, s, e, hW, hk, hkc, hcm, hk512, hr, hO⟩ := hcut
      have c0 := hW.2.1.cell_ 0 (.string s) rfl
      have c1 := hW.2.1.cell_ 1 (.int .i64 e) rfl
      have y1 := hW.2.1.frozen 1
      have z0 := hW.1.cell_ 0 (.slice none 0 0) rfl
      have zf := hW.1.frozen 0
      have x0 := hW.2.2.1.cell_ 0 (.slice A k c) rfl
      have HW := Lib.hid (And.intro hW (And.intro hk hr))
      clear hW hk hr
      rcases hO with ⟨he, hO⟩ | ⟨he, hO, hs, hz⟩
      · have e0 : (e == 0) = false := by simp [he]
        have e1 : (e != 0) = true := by simp [he]
        have HO := Lib.hid (And.intro hO trivial)
        clear he hO
        go_wp2_with fail
        go_region
        go_wp2_with fail
        have hcc := World.cell?_setCell_same w20 ⟨w.heap.size, 0, none⟩ (.slice none 0 0) z0
        have hcd : (w20.setCell ⟨w.heap.size, 0, none⟩ (.slice none 0 0)).drew.cell? ⟨w.heap.size, 0, none⟩ = some (.slice none 0 0) := hcc
        refine bodyPost_ret (v := .tuple #[.agg #[.slice none 0 0], .int .i64 e]) (by simp [results, Try.results22, go_sem, hcd, hcc]) rfl ?_
        rw [HO.out.1]
        exact ⟨none, 0, rfl, Nat.le_refl _, by unfold maxLen; omega, Rd.nil _ _, (HW.out.1.2.2.2.2.2.setCell (p := ⟨w.heap.size, 0, none⟩) (Nat.le_refl _) _).drew⟩
      · subst he
        have hO2 : putX acc ≠ s0.toList → O = (2, []) := fun h => by
          rw [hO]
          unfold finX
          rw [if_neg (by simp), if_pos h]
        have hO0 : putX acc = s0.toList → O = (0, acc) := fun h => by
          rw [hO]
          unfold finX
          rw [if_neg (by simp), if_neg (by simpa using h)]
        have HO := Lib.hid (And.intro hO2 (And.intro hO0 (And.intro hs hz)))
        clear hO hO2 hO0 hs hz
        by_cases hse : s = ⟨#[]⟩
        · subst hse
          have e1 : (⟨#[]⟩ : ByteArray).toList = [] := toList_nil
          have e0 : (⟨#[]⟩ : ByteArray).toList.isEmpty = true := by rw [e1]; rfl
          obtain ⟨sp, hsp⟩ : ∃ sp, ofL (putX acc) = sp := ⟨_, rfl⟩
          have HSP := Lib.hid hsp
          clear hsp
          go_wp2_with fail
          refine (xput_any acc A k c HW.out.2.1 (by omega) HO.out.2.2.2 sp HSP.out w20 HW.out.2.2).mono ?_
          rintro en w21 ⟨rfl, hb21⟩
          have hW21 := HW.out.1.below hb21
          have c1' := hW21.2.1.cell_ 1 (.int .i64 0) rfl
          have y1' := hW21.2.1.frozen 1
          have z0' := hW21.1.cell_ 0 (.slice none 0 0) rfl
          have zf' := hW21.1.frozen 0
          have x0' := hW21.2.2.1.cell_ 0 (.slice A k c) rfl
          have H21 := Lib.hid (And.intro hW21 (HW.out.2.2.below hb21))
          clear hW21 hb21 c0 c1 y1 z0 zf x0
          by_cases hps : sp = s0
          · have hq : (sp.toList == s0.toList) = true := by rw [hps]; simp
            have hO3 := HO.out.2.1 (by rw [← hps, ← HSP.out, toList_ofL])
            have HO3 := Lib.hid (And.intro hO3 trivial)
            clear hps hO3
            go_wp2_with fail
            have hcc := World.cell?_setCell_same w21 ⟨w.heap.size, 0, none⟩ (.slice A k c) z0'
            refine bodyPost_ret (v := .tuple #[.agg #[.slice A k c], .int .i64 0]) (by simp [results, Try.results22, go_sem, hcc]) rfl ?_
            rw [HO3.out.1]
            have hx := H21.out.1.2.2.2.2.1
            have hrn : Rd (w21.setCell ⟨w.heap.size, 0, none⟩ (.slice A k c)) A (itf acc) := by
              obtain ⟨_, A8, c8, h8, _, _, hrow⟩ := Sl.own (H21.out.1.2.2.2.1.kept (only_set w21 w.heap.size 0 (.slice A k c)) (Or.inr (H21.out.1.off (by omega))))
              cases h8
              exact hrow
            exact ⟨A, c, by rw [HW.out.2.1], by rw [HW.out.2.1]; exact hkc, hcm, hrn, H21.out.1.2.2.2.2.2.setCell (p := ⟨w.heap.size, 0, none⟩) (Nat.le_refl _) _⟩
          · have hq : (sp.toList == s0.toList) = false := by rw [beq_strI]; exact decide_eq_false hps
            have hO3 := HO.out.1 (fun h => hps (str_eq (by rw [← HSP.out, toList_ofL]; exact h)))
            have HO3 := Lib.hid (And.intro hO3 trivial)
            clear hps hO3
            go_wp2_with fail
            go_region
            go_wp2_with fail
            have hz1 : (w21.setCell ⟨w.heap.size + 1, 1, none⟩ (.int .i64 2)).cell? ⟨w.heap.size, 0, none⟩ = some (.slice none 0 0) := by rw [World.cell?_setCell_other _ _ _ _ (by simp)]; exact z0'
            have hcc := World.cell?_setCell_same (w21.setCell ⟨w.heap.size + 1, 1, none⟩ (.int .i64 2)) ⟨w.heap.size, 0, none⟩ (.slice none 0 0) hz1
            have hcd : ((w21.setCell ⟨w.heap.size + 1, 1, none⟩ (.int .i64 2)).setCell ⟨w.heap.size, 0, none⟩ (.slice none 0 0)).drew.cell? ⟨w.heap.size, 0, none⟩ = some (.slice none 0 0) := hcc
            refine bodyPost_ret (v := .tuple #[.agg #[.slice none 0 0], .int .i64 2]) (by simp [results, Try.results22, go_sem, hcd]) rfl ?_
            rw [HO3.out.1]
            exact ⟨none, 0, rfl, Nat.le_refl _, by unfold maxLen; omega, Rd.nil _ _, ((H21.out.1.2.2.2.2.2.setCell (p := ⟨w.heap.size + 1, 1, none⟩) (show w.heap.size ≤ w.heap.size + 1 by omega) _).setCell (p := ⟨w.heap.size, 0, none⟩) (Nat.le_refl _) _).drew⟩
        · have e1 : ¬ s.toList = [] := fun h => hse (str_eq (h.trans toList_nil.symm))
          have e0 : s.toList.isEmpty = false := by cases h : s.toList with
            | nil => exact absurd h e1
            | cons a l => rfl
          have hO3 := HO.out.1 (fun h => hse (HO.out.2.2.1 h))
          have HO3 := Lib.hid (And.intro hO3 trivial)
          clear hse hO3
          go_wp2_with fail
          go_region
          go_wp2_with fail
          have hz1 : (w20.setCell ⟨w.heap.size + 1, 1, none⟩ (.int .i64 2)).cell? ⟨w.heap.size, 0, none⟩ = some (.slice none 0 0) := by rw [World.cell?_setCell_other _ _ _ _ (by simp)]; exact z0
          have hcc := World.cell?_setCell_same (w20.setCell ⟨w.heap.size + 1, 1, none⟩ (.int .i64 2)) ⟨w.heap.size, 0, none⟩ (.slice none 0 0) hz1
          have hcd : ((w20.setCell ⟨w.heap.size + 1, 1, none⟩ (.int .i64 2)).setCell ⟨w.heap.size, 0, none⟩ (.slice none 0 0)).drew.cell? ⟨w.heap.size, 0, none⟩ = some (.slice none 0 0) := hcc
          refine bodyPost_ret (v := .tuple #[.agg #[.slice none 0 0], .int .i64 2]) (by simp [results, Try.results22, go_sem, hcd]) rfl ?_
          rw [HO3.out.1]
          exact ⟨none, 0, rfl, Nat.le_refl _, by unfold maxLen; omega, Rd.nil _ _, ((HW.out.1.2.2.2.2.2.setCell (p := ⟨w.heap.size + 1, 1, none⟩) (show w.heap.size ≤ w.heap.size + 1 by omega) _).setCell (p := ⟨w.heap.size, 0, none⟩) (Nat.le_refl _) _).drew⟩
end Go.Proofs.Ytnhbkfefpkocaaa
