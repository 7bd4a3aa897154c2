/-
  The reference's Take (index).
-/
import Derived.Test.YtnhbkfefpkocaaaP16
import Derived.Test.YtnhbkfefpkocaaaIxTd
import Derived.Test.YtnhbkfefpkocaaaIxTc
namespace Go.Proofs.Ytnhbkfefpkocaaa
open Go.RowKit Go.Sort

/-- Append of one element that was just laid in a block of its own: which blocks stay. -/
theorem wpList_append_gb {P : Program} (w : World) {ops : Array Oper} {rest : List Oper} {o : Oper} {a : Act} {Q : Exit → Act → World → Prop} (hgd : o.guard = none) (s x : Operand) (t : TypeId)
    (ho : o.op = .call { callee := .builtin .append, args := #[s, x], argTypes := #[t, t] })
    (base : Nat) (e : TypeId) (size bytes : Nat) (hel : El P t e size bytes)
    (v : Value) (n : Nat) (xs : List Value) (hown : w.ownsRow base e size v n xs) (hs : a.eval s = v) (C : Array Value)
    (hx : a.eval x = .slice (some ⟨w.heap.size, 0, none⟩) 1 1) (hC : C.size = size) (h1 : ∀ u ∈ C.toList, u.oneCell' = true)
    (h63 : n + 1 ≤ maxLen) (hbytes : (n + 1) * bytes ≤ 140737488355328) (hbase : base ≤ w.heap.size)
    (h : ∀ v' w', w'.ownsRow base e size v' (n + 1) (xs ++ C.toList) → (w.alloc (.cells C e)).grownBy w' v.ownBlock → Below base w w' → wpList P ops Q rest (a.put o.dst v') w') : wpList P ops Q (o :: rest) a (w.alloc (.cells C e)) := by
  obtain ⟨ht, hsz, i, z, hi, hz, hsize, hby, hzs⟩ := hel
  refine wpList_append_own (w.alloc (.cells C e)) hgd s x t ho base e i z size bytes ht hi hz hsize hby hzs hsz v n xs hs (hown.alloc _) ⟨w.heap.size, 0, none⟩ 1 1 C.toList hx (by simp [hC]) ?_ h1 h63 hbytes (by simp; omega) ?_
  · intro j u hj
    rw [add_mk, World.cell?_alloc_mark]
    simpa using hj
  · intro v' w' h2 h3 _
    exact h v' w' h2 h3 (((Below.refl _ _).alloc hbase _).grown h3 (by simp; omega) fun k hk => (hown.lt k hk).1)
/-- Behind the reference's Take. -/
def RTakeXEnd (O : Int × List It) (w : World) (e : Ending) (w' : World) : Prop :=
  ∃ A c, e = .returned (.tuple #[.slice A O.2.length c, .int .i64 O.1]) ∧ O.2.length ≤ c ∧ c ≤ maxLen ∧ Rd w' A (itf O.2) ∧ Below w.heap.size w w'
theorem RTakeXEnd.nil {O : Int × List It} {k : Int} {w w' : World} (h : O = (k, [])) (hb : Below w.heap.size w w') : RTakeXEnd O w (.returned (.tuple #[.slice none 0 0, .int .i64 k])) w' := by
  subst h
  exact ⟨none, 0, rfl, Nat.le_refl _, by unfold maxLen; omega, Rd.nil _ _, hb⟩
theorem RTakeXEnd.good {O : Int × List It} {l : List It} {w w' : World} {A : Option Addr} {k c : Nat} (h : O = (0, l)) (hk : l.length = k) (hkc : k ≤ c) (hm : c ≤ maxLen) (hr : Rd w' A (itf l)) (hb : Below w.heap.size w w') : RTakeXEnd O w (.returned (.tuple #[.slice A k c, .int .i64 0])) w' := by
  subst h hk
  exact ⟨A, c, rfl, hkc, hm, hr, hb⟩
theorem takeN_len {s : List UInt8} {n : Nat} {r : List UInt8} (h : takeN s = some (n, r)) : r.length ≤ s.length := by
  have := congrArg List.length (takeN_some _ _ _ h).1
  rw [List.length_append] at this
  omega
theorem oneT_len (s : List UInt8) : (oneT s).2.2.1.length ≤ s.length ∧ (oneT s).2.2.2.2.2.2.length ≤ s.length := by
  unfold oneT
  split
  · simp
  · next c s1 h1 =>
    have k1 := takeN_len h1
    have k2 := takeT_len s1 4096
    split
    · simp
    · split
      · simp
      · next id s3 h3 =>
        have k3 := takeN_len h3
        split
        · simp
        · next sz s4 h4 =>
          have k4 := takeN_len h4
          split
          · simp
          · simp only [List.length_drop]
            omega
theorem oneV_is (s : ByteArray) (hs : s.size ≤ 1000000000) (k : Int) (cn idn szn : Nat) (p sm r : List UInt8) (pb smb rb : ByteArray) (hp : ofL p = pb) (hsm : ofL sm = smb) (hr : ofL r = rb) (h : oneT s.toList = (k, cn, p, idn, szn, sm, r)) (w : World) :
    Calls Try.prog 51 #[.string s] w fun e w' => e = .returned (.tuple #[.agg #[.string pb, .int .i64 (idn : Nat), .int .i64 (szn : Nat), .string smb], .int .i64 (cn : Nat), .string rb, .int .i64 k]) ∧ Below w.heap.size w w' := by
  subst hp hsm hr
  exact oneI_any s hs _ h w

set_option maxRecDepth 20000 in
set_option maxHeartbeats 8000000 in
theorem rtakeX_any (s0 : ByteArray) (hs0 : s0.size ≤ 10000000) (O : Int × List It) (hO : takeX s0.toList = O) (w : World) :
    Calls Try.prog 24 #[.string s0] w (RTakeXEnd O w) := by
  have mixed : Try.prog.follows Departure.mixedOrders = true := by kernel_rfl
  unfold takeX at hO
  rcases hn : takeN s0.toList with _ | ⟨N, r⟩
  · rw [hn] at hO
    have HO := Lib.hid hO.symm
    have HN := Lib.hid hn
    clear hO hn
    go_enter Try.func24, Try.ntmps24
    go_wp2_with fail
    refine (takeRef_none s0 w (by omega) HN.out).mono ?_
    rintro e w1 ⟨rfl, hb1⟩
    have HB := Lib.hid hb1
    clear hb1
    go_wp2_with fail
    go_ret2
    exact RTakeXEnd.nil HO.out HB.out
  · rw [hn] at hO
    simp only at hO
    obtain ⟨s1, hs1, hs1l, _⟩ := str_of r
    have hs1z : s1.size ≤ 10000000 := by have := size_tl hn; rw [hs1] at this; omega
    by_cases h512 : 512 < N
    · rw [if_pos h512] at hO
      have h51 : (512 : Int) < (N : Int) := by omega
      have HO := Lib.hid hO.symm
      have HN := Lib.hid (And.intro hn hs1)
      clear hO hn hs1 hs1l
      go_enter Try.func24, Try.ntmps24
      go_wp2_with fail
      refine (takeRef_some s0 w (by omega) N r HN.out.1).mono ?_
      rw [HN.out.2]
      rintro e w1 ⟨rfl, hb1⟩
      have HB := Lib.hid hb1
      clear hb1
      go_wp2_with fail
      go_ret2
      exact RTakeXEnd.nil HO.out HB.out
    · rw [if_neg h512] at hO
      have h51 : ¬ ((512 : Int) < (N : Int)) := by omega
      have HT0 := Lib.hid (show TkX s0 O N ⟨#[]⟩ s1 0 [] from .inr ⟨rfl, by rw [toList_nil, hs1l]; exact hO.symm, fun _ => rfl, N, r, hn, by rw [toList_nil, hs1l]⟩)
      have HN := Lib.hid (And.intro hn hs1)
      clear hO hn hs1 hs1l
      go_enter Try.func24, Try.ntmps24
      go_wp2_with fail
      refine (takeRef_some s0 w (by omega) N r HN.out.1).mono ?_
      rw [HN.out.2]
      rintro e w1 ⟨rfl, hb1⟩
      have HB1 := Lib.hid hb1
      clear hb1
      go_wp2_with fail
      go_loopw [5, 7, 8, 9] (fun vs vl vt vi wr => ∃ (i m : Nat) (acc : List It) (last s : ByteArray) (v : Value), vi = .int .i64 (i : Nat) ∧ vs = .string s ∧ vl = v ∧ vt = .string last ∧ i + m = N ∧ s.size ≤ 10000000 ∧ last.size ≤ 10000000 ∧ Hid (acc.length = i ∧ True) ∧ Hid (wr.ownsRow w.heap.size 46 4 v i (itf acc)) ∧ Hid (TkX s0 O m last s 0 acc) ∧ Hid (Below w.heap.size w wr)) (fun _ _ _ vi _ => N - iOfI vi)
      case atStart => exact ⟨0, N, [], ⟨#[]⟩, s1, _, rfl, rfl, rfl, rfl, by omega, hs1z, by decide, Lib.hid ⟨rfl, trivial⟩, Lib.hid ⟨rfl, Or.inl ⟨rfl, rfl⟩⟩, HT0, HB1⟩
      case round =>
        clear HT0 HB1
        obtain ⟨i, m, acc, last, s, v, rfl, rfl, rfl, rfl, him, hsz, hlz, HK, HO, HT, HB⟩ := hrel
        cases m with
        | zero =>
          obtain rfl : i = N := by omega
          obtain ⟨_, A, c, rfl, hkc, hcm, hrow⟩ := Sl.own HO.out
          have hpost := HT.out.post
          obtain ⟨sp, hsp⟩ : ∃ sp, ofL (putX acc) = sp := ⟨_, rfl⟩
          have HP := Lib.hid (And.intro hsp (And.intro hrow hpost))
          clear hsp hrow hpost
          go_wp2_with fail
          refine (rputX_any acc A i c HK.out.1 (by omega) HP.out.2.2.2.2 sp HP.out.1 wr HP.out.2.1).mono ?_
          rintro e w2 ⟨rfl, hb2⟩
          have HB2 := Lib.hid (And.intro (bl HB.out hb2) (HP.out.2.1.below hb2))
          clear hb2
          by_cases hps : sp = s0
          · have hq : (sp.toList == s0.toList) = true := by rw [hps]; simp
            have hO3 : O = (0, acc) := by
              rw [HP.out.2.2.1]
              unfold finX
              rw [if_neg (by simp), if_neg (by simp only [ne_eq, Decidable.not_not]; rw [← hps, ← HP.out.1, toList_ofL])]
            have HO3 := Lib.hid hO3
            clear hps hO3
            go_wp2_with fail
            go_ret2
            exact RTakeXEnd.good HO3.out HK.out.1 hkc hcm HB2.out.2 HB2.out.1
          · have hq : (sp.toList == s0.toList) = false := by rw [beq_strI]; exact decide_eq_false hps
            have hO3 : O = (2, []) := by
              rw [HP.out.2.2.1]
              unfold finX
              rw [if_neg (by simp), if_pos (fun h => hps (str_eq (by rw [← HP.out.1, toList_ofL]; exact h)))]
            have HO3 := Lib.hid hO3
            clear hps hO3
            go_wp2_with fail
            go_ret2
            exact RTakeXEnd.nil HO3.out HB2.out.1
        | succ m =>
          have hin1 : (i : Int) < (N : Int) := by omega
          obtain ⟨k, cn, p, idn, szn, sml, rl, ht⟩ : ∃ k cn p idn szn sml rl, oneT s.toList = (k, cn, p, idn, szn, sml, rl) := ⟨_, _, _, _, _, _, _, rfl⟩
          obtain ⟨pb, hpb, hpbl, _⟩ := str_of p
          obtain ⟨sm, hsm, hsml, _⟩ := str_of sml
          obtain ⟨rb, hrb, hrbl, _⟩ := str_of rl
          have HV := Lib.hid (And.intro hpb (And.intro hsm (And.intro hrb (And.intro ht (And.intro hpbl (And.intro hsml hrbl))))))
          have hpz : pb.size ≤ 10000000 ∧ rb.size ≤ 10000000 := by
            have := oneT_len s.toList
            rw [ht, size_toList] at this
            simp only at this
            rw [← hpbl, ← hrbl, size_toList, size_toList] at this
            omega
          obtain ⟨hpz1, hrz⟩ := hpz
          clear ht hpb hpbl hsm hsml hrb hrbl
          go_wp2_with fail
          refine (oneV_is s (by omega) k cn idn szn p sml rl pb sm rb HV.out.1 HV.out.2.1 HV.out.2.2.1 HV.out.2.2.2.1 wr).mono ?_
          rintro e w2 ⟨rfl, hb2⟩
          have HB2 := Lib.hid (And.intro (bl HB.out hb2) (own_belowI HO.out hb2))
          clear hb2
          obtain ⟨ab, hab⟩ : ∃ ab, w2.heap.size = ab := ⟨_, rfl⟩
          obtain ⟨w3, hw3⟩ : ∃ w3, w2.alloc (.cells #[.string pb, .int .i64 (idn : Nat), .int .i64 (szn : Nat), .string sm] 46) = w3 := ⟨_, rfl⟩
          have hb3 : Below w2.heap.size w2 w3 := by rw [← hw3]; exact (Below.refl _ _).alloc (Nat.le_refl _) _
          have hk3 : Bk w3 ab 46 #[.string pb, .int .i64 (idn : Nat), .int .i64 (szn : Nat), .string sm] := by rw [← hw3, ← hab]; exact Bk.new _ _ _
          have hoff : u7.ownBlock ≠ some ab := fun hv => by have := (HB2.out.2.lt ab hv).2; omega
          have hwab : w.heap.size ≤ ab := by rw [← hab]; exact HB2.out.1.size
          have HW3 := Lib.hid (And.intro (bl HB2.out.1 hb3) (And.intro (own_belowI HB2.out.2 hb3) (And.intro hk3 (And.intro hoff hwab))))
          have HE3 := Lib.hid (And.intro hw3 hab)
          clear hb3 hk3 hoff hw3 hwab
          go_upto_region 12 with (fail)
          rw [HE3.out.1]
          try rw [HE3.out.2]
          clear HE3 hab HB2
          by_cases hk0 : k = 0
          · subst hk0
            have hone := HV.out.2.2.2.1
            by_cases hc : last.size < cn
            · have hc1 : (last.size : Int) < (cn : Int) := by omega
              have hO3 : O = (2, []) := (TkX.next (ap := ⟨#[]⟩) (sm := sm) (r := rb) HT.out (by rw [hone, HV.out.2.2.2.2.2.1, HV.out.2.2.2.2.2.2]) (fun h => by omega)).1 (.inl hc)
              have HO3 := Lib.hid hO3
              clear hc hO3 hone
              go_wp2_with fail
              go_ret2
              exact RTakeXEnd.nil HO3.out HW3.out.1
            · have hc1 : ¬ ((last.size : Int) < (cn : Int)) := by omega
              have hc2 : (cn : Int) ≤ (last.size : Int) := by omega
              have hc3 : cn ≤ last.size := by omega
              obtain ⟨lp, hlp⟩ : ∃ lp, last.extract 0 cn = lp := ⟨_, rfl⟩
              obtain ⟨ap, hap⟩ : ∃ ap, lp ++ pb = ap := ⟨_, rfl⟩
              have hlpz : lp.size ≤ 10000000 := by rw [← hlp, ByteArray.size_extract]; omega
              have hapz : ap.size ≤ 20000000 := by rw [← hap, ByteArray.size_append]; omega
              have hcat : ¬ (9223372036854775807 < lp.size + pb.size) := by omega
              have hnx := TkX.next (ap := ap) (sm := sm) (r := rb) HT.out (by rw [hone, HV.out.2.2.2.2.2.1, HV.out.2.2.2.2.2.2]) (fun _ => by rw [← hap, toList_app, ← hlp, toList_pre, HV.out.2.2.2.2.1])
              have hlast : i = 0 → last = ⟨#[]⟩ := fun h => by
                rcases HT.out with ⟨h2, _⟩ | ⟨_, _, h2, _⟩
                · exact absurd rfl h2
                · exact h2 (List.eq_nil_of_length_eq_zero (by rw [HK.out.1]; exact h))
              have HX := Lib.hid (And.intro hnx hlast)
              have HC := Lib.hid hc
              obtain ⟨bk, hbk⟩ : ∃ bk : Bool, okP ap = if bk then 0 else 5 := by
                rcases okP_twoX ap with h | h
                · exact ⟨true, h⟩
                · exact ⟨false, h⟩
              obtain ⟨kc, hkcm⟩ : ∃ kc, cmpB last ap = kc := ⟨_, rfl⟩
              have HEK := Lib.hid (And.intro hbk hkcm)
              obtain ⟨w4, hw4⟩ : ∃ w4, w3.setCell ⟨ab, 0, none⟩ (.string ap) = w4 := ⟨_, rfl⟩
              have hg4 : w3.grownBy w4 (some ab) := by rw [← hw4]; exact only_set _ _ _ _
              have hk4 : Bk w4 ab 46 #[.string ap, .int .i64 (idn : Nat), .int .i64 (szn : Nat), .string sm] := by rw [← hw4]; exact HW3.out.2.2.1.set_ 0 _
              have HW4 := Lib.hid (And.intro (HW3.out.1.trans (below_only hg4 HW3.out.2.2.2.2 HW3.out.1.size)) (And.intro (HW3.out.2.1.kept hg4 (Or.inr HW3.out.2.2.2.1)) (And.intro hk4 (And.intro HW3.out.2.2.2.1 HW3.out.2.2.2.2))))
              have d0 := HW3.out.2.2.1.cell_ 0 (.string pb) rfl
              have y0 := HW3.out.2.2.1.frozen 0
              have HE4 := Lib.hid hw4
              clear hnx hlast hc hbk hkcm hg4 hk4 hw4 hone
              go_upto_region 16 with (fail)
              go_region
              rw [HE4.out]
              obtain ⟨w5, hw5⟩ : ∃ w5, w4.drew = w5 := ⟨_, rfl⟩
              have HW5 := Lib.hid (show Below w.heap.size w w5 ∧ w5.ownsRow w.heap.size 46 4 u7 i (itf acc) ∧ Bk w5 ab 46 #[.string ap, .int .i64 (idn : Nat), .int .i64 (szn : Nat), .string sm] by
                rw [← hw5]
                exact ⟨HW4.out.1.drew, HW4.out.2.1, HW4.out.2.2.1.drew⟩)
              rw [hw5]
              clear HE4 hw5 d0 y0 HW3
              have a0 := HW5.out.2.2.cell_ 0 (.string ap) rfl
              go_upto_region 17 with (fail)
              go_cut [75] from 25 to 82 (fun vb wx => ∃ b : Bool, vb = .bool b ∧ (b = true ↔ BadX last cn ap (idn : Int)) ∧ Below w5.heap.size w5 wx)
              case first =>
                cases bk with
                | false =>
                  have HB := Lib.hid (show BadX last cn ap (idn : Int) from .inr (.inl (by rw [HEK.out.1]; decide)))
                  go_wp2_with fail
                  refine (mayX_is ap false HEK.out.1 w5 (by omega)).mono ?_
                  rintro en w6 ⟨rfl, hb6⟩
                  have HB6 := Lib.hid hb6
                  clear hb6 a0
                  go_wp2_with fail
                  go_meet
                  exact ⟨true, rfl, ⟨fun _ => HB.out, fun _ => rfl⟩, HB6.out⟩
                | true =>
                  have hok : okP ap = 0 := HEK.out.1
                  have HOK := Lib.hid hok
                  clear hok
                  by_cases hi1 : (idn : Int) < 1
                  · have HB := Lib.hid (show BadX last cn ap (idn : Int) from .inr (.inr (.inl hi1)))
                    go_wp2_with fail
                    refine (mayX_is ap true HEK.out.1 w5 (by omega)).mono ?_
                    rintro en w6 ⟨rfl, hb6⟩
                    have i1 := (HW5.out.2.2.below' hb6).cell_ 1 (.int .i64 (idn : Nat)) rfl
                    have HB6 := Lib.hid hb6
                    clear hb6 a0
                    go_wp2_with fail
                    go_meet
                    exact ⟨true, rfl, ⟨fun _ => HB.out, fun _ => rfl⟩, HB6.out⟩
                  · by_cases hi2 : (4294967295 : Int) < (idn : Int)
                    · have HB := Lib.hid (show BadX last cn ap (idn : Int) from .inr (.inr (.inr (.inl hi2))))
                      go_wp2_with fail
                      refine (mayX_is ap true HEK.out.1 w5 (by omega)).mono ?_
                      rintro en w6 ⟨rfl, hb6⟩
                      have i1 := (HW5.out.2.2.below' hb6).cell_ 1 (.int .i64 (idn : Nat)) rfl
                      have HB6 := Lib.hid hb6
                      clear hb6 a0
                      go_wp2_with fail
                      go_meet
                      exact ⟨true, rfl, ⟨fun _ => HB.out, fun _ => rfl⟩, HB6.out⟩
                    · by_cases hi0 : i = 0
                      · have HB := Lib.hid (show ¬ BadX last cn ap (idn : Int) from by
                          have hl := HX.out.2 hi0
                          have hne := (okP_le HOK.out).1
                          rintro (h | h | h | h | h)
                          · exact HC.out h
                          · exact h HOK.out
                          · exact hi1 h
                          · exact hi2 h
                          · refine h ?_
                            rw [hl, toList_nil]
                            cases hap : ap.toList with
                            | nil => exact absurd hap hne
                            | cons x l => exact List.nil_lt_cons x l)
                        subst hi0
                        go_wp2_with fail
                        refine (mayX_is ap true HEK.out.1 w5 (by omega)).mono ?_
                        rintro en w6 ⟨rfl, hb6⟩
                        have i1 := (HW5.out.2.2.below' hb6).cell_ 1 (.int .i64 (idn : Nat)) rfl
                        have HB6 := Lib.hid hb6
                        clear hb6 a0
                        go_wp2_with fail
                        go_meet
                        exact ⟨false, by simp; omega, ⟨(fun h => by cases h), fun h => absurd h HB.out⟩, HB6.out⟩
                      · have hip : (0 : Int) < (i : Int) := by omega
                        have hip2 : 0 < i := by omega
                        have HB := Lib.hid (show 0 ≤ kc ↔ BadX last cn ap (idn : Int) from by
                          have q := cmp_lt last ap
                          rw [HEK.out.2] at q
                          constructor
                          · intro h
                            exact .inr (.inr (.inr (.inr fun h2 => by have := q.2 h2; omega)))
                          · rintro (h | h | h | h | h)
                            · exact absurd h HC.out
                            · exact absurd HOK.out h
                            · exact absurd h hi1
                            · exact absurd h hi2
                            · exact Int.not_lt.1 fun h2 => h (q.1 h2))
                        go_wp2_with fail
                        refine (mayX_is ap true HEK.out.1 w5 (by omega)).mono ?_
                        rintro en w6 ⟨rfl, hb6⟩
                        have i0 := (HW5.out.2.2.below' hb6).cell_ 0 (.string ap) rfl
                        have i1 := (HW5.out.2.2.below' hb6).cell_ 1 (.int .i64 (idn : Nat)) rfl
                        have HB6 := Lib.hid hb6
                        clear hb6 a0
                        go_wp2_with fail
                        refine (compareRX_is last ap kc HEK.out.2 w6 (by omega) (by omega)).mono ?_
                        rintro en w7 ⟨rfl, hb7⟩
                        have HB7 := Lib.hid (bl HB6.out hb7)
                        clear hb7
                        by_cases hkc0 : 0 ≤ kc
                        · have HB2 := Lib.hid (HB.out.1 hkc0)
                          go_wp2_with fail
                          go_meet
                          exact ⟨true, by simp [hkc0], ⟨fun _ => HB2.out, fun _ => rfl⟩, HB7.out⟩
                        · have HB2 := Lib.hid (fun h => hkc0 (HB.out.2 h))
                          go_wp2_with fail
                          go_meet
                          exact ⟨false, by simp [hkc0]; omega, ⟨(fun h => by cases h), fun h => absurd h HB2.out⟩, HB7.out⟩
              case rest =>
                obtain ⟨b, rfl, hbb, hb6⟩ := hcut
                obtain ⟨w6, rfl⟩ : ∃ w6, w6 = wc := ⟨_, rfl⟩
                have HBB := Lib.hid hbb
                have hk6 := HW5.out.2.2.below' hb6
                have HW6 := Lib.hid (And.intro (bl HW5.out.1 hb6) (own_belowI HW5.out.2.1 hb6))
                cases b with
                | true =>
                  have HO3 := Lib.hid (HX.out.1.1 (HBB.out.1 rfl))
                  clear hbb hb6 hk6 a0
                  go_wp2_with fail
                  go_ret2
                  exact RTakeXEnd.nil HO3.out HW6.out.1
                | false =>
                  have hnb : ¬ BadX last cn ap (idn : Int) := fun h => by have := HBB.out.2 h; cases this
                  have hok : okP ap = 0 := Decidable.not_not.1 fun h => hnb (.inr (.inl h))
                  have hz4 := (okP_le hok).2
                  rw [size_toList] at hz4
                  have a0' := hk6.cell_ 0 (.string ap) rfl
                  have a1' := hk6.cell_ 1 (.int .i64 (idn : Nat)) rfl
                  have a2' := hk6.cell_ 2 (.int .i64 (szn : Nat)) rfl
                  have a3' := hk6.cell_ 3 (.string sm) rfl
                  have HNX := Lib.hid (And.intro (HX.out.1.2 hnb) (And.intro (hone_itT ⟨ap, (idn : Nat), (szn : Nat), sm⟩) (And.intro HW6.out.1.size hk6)))
                  clear hbb hb6 hk6 a0 hnb hok
                  go_upto_region 20 with (at_builtin; go_must (refine wpList_append_gb _ rfl (.tmp 76) (.tmp 78) 23 rfl w.heap.size 46 4 48 el_item _ _ _ HW6.out.2 (by rfl) _ (by rfl) rfl HNX.out.2.1 (by unfold maxLen; omega) (by omega) HNX.out.2.2.1 ?_); intro v7 w7 ho7 hg7 hb7)
                  have hk7 := (HNX.out.2.2.2.alloc (.cells #[.string ap, .int .i64 (idn : Nat), .int .i64 (szn : Nat), .string sm] 46)).onlyV hg7 HW4.out.2.2.2.1
                  have p0 := hk7.cell_ 0 (.string ap) rfl
                  have HO7 := Lib.hid (show w7.ownsRow w.heap.size 46 4 v7 (i + 1) (itf (acc ++ [⟨ap, (idn : Nat), (szn : Nat), sm⟩])) by rw [itf_app]; exact ho7)
                  have HB7 := Lib.hid (HW6.out.1.trans hb7)
                  clear ho7 hg7 hb7 hk7 a0' a1' a2' a3'
                  go_wp2_with fail
                  first
                    | exact ⟨⟨i + 1, m, _, ap, rb, v7, by first | rfl | go_num, rfl, rfl, rfl, by omega, hrz, by omega, Lib.hid ⟨by rw [List.length_append, HK.out.1]; rfl, trivial⟩, HO7, Lib.hid HNX.out.1, HB7⟩, by simp [iOfI]; omega⟩
                    | (go_round
                       case rel => exact ⟨i + 1, m, _, ap, rb, v7, by first | rfl | go_num, rfl, rfl, rfl, by omega, hrz, by omega, Lib.hid ⟨by rw [List.length_append, HK.out.1]; rfl, trivial⟩, HO7, Lib.hid HNX.out.1, HB7⟩
                       case measure => simp [iOfI]; omega)
          · have hO3 : O = (k, []) := HT.out.bad (by rw [HV.out.2.2.2.1]) hk0
            have HO3 := Lib.hid hO3
            have e0 : (k == 0) = false := by simp [hk0]
            have e1 : (k != 0) = true := by simp [hk0]
            clear hO3 hk0
            go_wp2_with fail
            go_ret2
            exact RTakeXEnd.nil HO3.out HW3.out.1
end Go.Proofs.Ytnhbkfefpkocaaa
