/-
  index.With. Parts (archives' files) in a row; sledgelaw44.few.
-/
import Derived.Test.YtnhbkfefpkocaaaIxD
import Derived.Test.YtnhbkfefpkocaaaP8
import Derived.Deep.RegionHeld3
import Derived.Deep.Cut
import Derived.Deep.CutRange
namespace Go.Proofs.Ytnhbkfefpkocaaa
open Go.RowKit Go.Sort

theorem checkX_is (p : ByteArray) (k : Int) (h : okP p = k) (w : World) (hs : p.size ≤ 9223372036854775807) :
    Calls Try.prog 36 #[.string p] w fun e w' => e = .returned (.int .i64 k) ∧ Below w.heap.size w w' := by subst h; exact check_any p w hs
/-- Items in a slice in new memory, nil or not. -/
def SlF (w0 w : World) (v : Value) (l : List It) : Prop := ∃ A c, v = .slice A l.length c ∧ l.length ≤ c ∧ c ≤ maxLen ∧ Rd w A (itf l) ∧ ∀ ad, A = some ad → w0.heap.size ≤ ad.block
/-- Behind With: an index and an error. -/
def WithEnd (w : World) (r : List It × Int) (e : Ending) (w' : World) : Prop :=
  ∃ v, e = .returned (.tuple #[.agg #[v], .int .i64 r.2]) ∧ SlF w w' v r.1 ∧ Below w.heap.size w w'
theorem withL_step (id : Int) (fs : List Fl) (k : Nat) (f : Fl) (L : List It) (h : fs[k]? = some f) (hok : okP f.1 = 0) : withL id (fs.drop k) L = withL id (fs.drop (k + 1)) (putI L (itOf id f)) := by
  have hk : k < fs.length := (List.getElem?_eq_some_iff.1 h).1
  have e : fs.drop k = f :: fs.drop (k + 1) := by rw [List.drop_eq_getElem_cons hk]; congr 1; exact (List.getElem?_eq_some_iff.1 h).2
  rw [e, withL, if_pos hok]
theorem withL_bad (id : Int) (fs : List Fl) (k : Nat) (f : Fl) (L : List It) (h : fs[k]? = some f) (hok : okP f.1 ≠ 0) : withL id (fs.drop k) L = ([], okP f.1) := by
  have hk : k < fs.length := (List.getElem?_eq_some_iff.1 h).1
  have e : fs.drop k = f :: fs.drop (k + 1) := by rw [List.drop_eq_getElem_cons hk]; congr 1; exact (List.getElem?_eq_some_iff.1 h).2
  rw [e, withL, if_neg hok]
theorem Rd.fileX {w : World} {A : Option Addr} {l : List Fl} (h : Rd w A (fl l)) {i : Nat} {x : Fl} (hx : l[i]? = some x) : ∃ b o, A = some ⟨b, o, none⟩ ∧ w.cell? ⟨b, o + i * 2, none⟩ = some (.string x.1) ∧ w.cell? ⟨b, o + i * 2 + 1, none⟩ = some (.string x.2) := by
  have hi : i < l.length := (List.getElem?_eq_some_iff.1 hx).1
  obtain ⟨b, o, e, hc⟩ := h (by intro e; have := fl_len l; rw [e] at this; simp at this; omega)
  refine ⟨b, o, e, hc (i * 2) _ ?_, hc (i * 2 + 1) _ ?_⟩
  · rw [fl_get0, hx]; rfl
  · rw [fl_get1, hx]; rfl
theorem shaSum_is (s sm : ByteArray) (h : ofL (shaW s.toList) = sm) (A : Option Addr) (c : Nat) (w : World) (hs : s.size ≤ 1000000000) (hr : Rd w A [.string s]) :
    Calls Try.prog 37 #[.slice A 1 c] w fun e w' => e = .returned (.string sm) ∧ Below w.heap.size w w' := by subst h; exact shaSum_any s A c w hs hr
theorem Rd.new1b (w : World) (o : Obj) (t : TypeId) (v : Value) : Rd ((w.alloc o).alloc (.cells #[v] t)).drew (some ⟨w.heap.size + 1, 0, none⟩) [v] := by
  have := Rd.drewH (Rd.new1 (w.alloc o) t v)
  rwa [World.size_alloc] at this
theorem Rd.new1a (w : World) (t : TypeId) (v : Value) : Rd (w.alloc (.cells #[v] t)).drew (some ⟨w.heap.size, 0, none⟩) [v] := Rd.drewH (Rd.new1 w t v)
theorem Rd.new1c (w : World) (o : Obj) (t : TypeId) (v : Value) : Rd ((w.alloc (.cells #[v] t)).alloc o).drew (some ⟨w.heap.size, 0, none⟩) [v] := Rd.drewH ((Rd.new1 w t v).below ((Below.refl _ _).alloc (Nat.le_refl _) _))
theorem Bk.two (w : World) (t : TypeId) (c : Array Value) (o : Obj) : Bk ((w.alloc (.cells c t)).alloc o).drew w.heap.size t c := ((Bk.new w t c).alloc o).drew
theorem Bk.two' (w : World) (t : TypeId) (c : Array Value) (o : Obj) : Bk ((w.alloc o).alloc (.cells c t)).drew (w.heap.size + 1) t c := by
  have := (Bk.new (w.alloc o) t c).drew
  rwa [World.size_alloc] at this
theorem ka (w : World) : Below w.heap.size w w.drew := (Below.refl _ w).drew
theorem kb (w : World) (o : Obj) : Below w.heap.size w (w.alloc o).drew := ((Below.refl _ w).alloc (Nat.le_refl _) o).drew
theorem kc (w : World) (o o2 : Obj) : Below w.heap.size w ((w.alloc o).alloc o2).drew := (((Below.refl _ w).alloc (Nat.le_refl _) o).alloc (by simp) o2).drew
theorem kd {w w6 : World} (h : Below w.heap.size w w6) (o : Obj) : Below w.heap.size w (w6.alloc o) := h.alloc h.size o
theorem ke {w w6 : World} (h : Below w.heap.size w w6) (b : Nat) (hb : w.heap.size ≤ b) (v0 v1 v2 v3 : Value) : Below w.heap.size w ((((w6.setCell ⟨b, 0, none⟩ v0).setCell ⟨b, 1, none⟩ v1).setCell ⟨b, 2, none⟩ v2).setCell ⟨b, 3, none⟩ v3) :=
  (((h.setCell (p := ⟨b, 0, none⟩) hb _).setCell (p := ⟨b, 1, none⟩) hb _).setCell (p := ⟨b, 2, none⟩) hb _).setCell (p := ⟨b, 3, none⟩) hb _
theorem Bk.four {w : World} {g : Nat} {t : TypeId} {c0 c1 c2 c3 : Value} (h : Bk w g t #[c0, c1, c2, c3]) (v0 v1 v2 v3 : Value) : Bk ((((w.setCell ⟨g, 0, none⟩ v0).setCell ⟨g, 1, none⟩ v1).setCell ⟨g, 2, none⟩ v2).setCell ⟨g, 3, none⟩ v3) g t #[v0, v1, v2, v3] :=
  (((h.set_ 0 v0).set_ 1 v1).set_ 2 v2).set_ 3 v3
theorem bl_one {w w6 : World} {o : Obj} (h : Below (w.alloc o).drew.heap.size (w.alloc o).drew w6) : Below w.heap.size w w6 := below_of_alloc (below_of_drew h)
theorem bl_two {w w6 : World} {o o2 : Obj} (h : Below ((w.alloc o).alloc o2).drew.heap.size ((w.alloc o).alloc o2).drew w6) : Below w.heap.size w w6 := below_of_alloc (below_of_alloc (below_of_drew h))
theorem own_belowI {w w' : World} {base n : Nat} {v : Value} {xs : List Value} {e : TypeId} {size : Nat} (h : w.ownsRow base e size v n xs) (hb : Below w.heap.size w w') : w'.ownsRow base e size v n xs := by
  refine ⟨h.1, ?_⟩
  rcases h.2 with h0 | ⟨g, cap, cur, hv, hbg, hg, rest⟩
  · exact .inl h0
  · exact .inr ⟨g, cap, cur, hv, hbg, (hb.block g (Array.getElem?_eq_some_iff.1 hg).1).trans hg, rest⟩
/-- An item stored into a row of a call's own. -/
theorem own_put {w : World} {base n g cap : Nat} {L : List It} (h : w.ownsRow base 46 4 (.slice (some ⟨g, 0, none⟩) n cap) n (itf L)) (i : Nat) (x : It) :
    ((((w.setCell ⟨g, i * 4, none⟩ (.string x.p)).setCell ⟨g, i * 4 + 1, none⟩ (.int .i64 x.id)).setCell ⟨g, i * 4 + 2, none⟩ (.int .i64 x.sz)).setCell ⟨g, i * 4 + 3, none⟩ (.string x.sm)).ownsRow base 46 4 (.slice (some ⟨g, 0, none⟩) n cap) n (itf (L.set i x)) := by
  have hl := h.1
  refine ⟨by rw [itf_len, List.length_set, ← itf_len]; exact hl, ?_⟩
  rcases h.2 with ⟨h0, _⟩ | ⟨g', cap', cur, hv, hbg, hg, hnc, hcm, hcs, htk⟩
  · cases h0
  · cases hv
    have hB : Bk w g 46 cur := hg
    refine .inr ⟨g, cap, _, rfl, hbg, (((hB.set_ (i * 4) (.string x.p)).set_ (i * 4 + 1) (.int .i64 x.id)).set_ (i * 4 + 2) (.int .i64 x.sz)).set_ (i * 4 + 3) (.string x.sm), hnc, hcm, by simpa using hcs, ?_⟩
    rw [itf_set, ← htk]
    simp only [Array.toList_setIfInBounds]
    rw [List.take_set, List.take_set, List.take_set, List.take_set]
/-- A box with an item in it. -/
def ItBox (w : World) (x : It) (v : Value) (wx : World) : Prop := ∃ h, v = .pointer (some ⟨h, 0, none⟩) ∧ w.heap.size ≤ h ∧ Bk wx h 46 #[.string x.p, .int .i64 x.id, .int .i64 x.sz, .string x.sm] ∧ Below w.heap.size w wx

set_option maxRecDepth 20000 in
set_option maxHeartbeats 4000000 in
theorem with_any (L0 : List It) (A : Option Addr) (n c : Nat) (hn : L0.length = n) (hl : n ≤ 500000) (hS : SrtI L0) (id : Int) (fs : List Fl) (FA : Option Addr) (fn fc : Nat) (hfn : fs.length = fn) (hfl : fn ≤ 400000) (hfz : ∀ f ∈ fs, f.1.size ≤ 100000000 ∧ f.2.size ≤ 1000000000) (w : World) (hr : Rd w A (itf L0)) (hf : Rd w FA (fl fs)) :
    Calls Try.prog 16 #[.agg #[.slice A n c], .int .i64 id, .slice FA fn fc] w (WithEnd w (withI L0 id fs)) := by
  have HS := Lib.hid hS
  have HN := Lib.hid (And.intro hn trivial)
  have HFN := Lib.hid (And.intro hfn trivial)
  have HFZ := Lib.hid hfz
  have HF := Lib.hid hf
  by_cases hid : id < 1 ∨ 4294967295 < id
  · have hW : withI L0 id fs = ([], 1) := by unfold withI; rw [if_pos hid]
    have HW := Lib.hid (And.intro hW trivial)
    clear hW hn hfn hfz hS hr hf
    by_cases hid1 : id < 1
    · go_enter Try.func16, Try.ntmps16
      go_wp2_with fail
      refine bodyPost_ret (v := .tuple #[.agg #[.slice none 0 0], .int .i64 1]) (by simp [results, Try.results16, go_sem]) rfl ?_
      rw [HW.out.1]
      exact ⟨_, rfl, ⟨none, 0, rfl, by simp, by unfold maxLen; omega, Rd.nil _ _, fun ad h => by cases h⟩, ((Below.refl _ w).alloc (Nat.le_refl _) _).alloc (by simp) _⟩
    · have hid2 : 4294967295 < id := by omega
      go_enter Try.func16, Try.ntmps16
      go_wp2_with fail
      refine bodyPost_ret (v := .tuple #[.agg #[.slice none 0 0], .int .i64 1]) (by simp [results, Try.results16, go_sem]) rfl ?_
      rw [HW.out.1]
      exact ⟨_, rfl, ⟨none, 0, rfl, by simp, by unfold maxLen; omega, Rd.nil _ _, fun ad h => by cases h⟩, ((Below.refl _ w).alloc (Nat.le_refl _) _).alloc (by simp) _⟩
  · have hid1 : ¬ id < 1 := by omega
    have hid2 : ¬ 4294967295 < id := by omega
    have hW : withI L0 id fs = withL id fs L0 := by unfold withI; rw [if_neg hid]
    have HW := Lib.hid (And.intro hW trivial)
    have HR := Lib.hid hr
    have HB0 := Lib.hid (((Below.refl _ w).alloc (Nat.le_refl _) (.cells #[.slice A n c] 25)).alloc (by simp) (.cells #[.slice none 0 0] 25))
    have HC0 := Lib.hid (And.intro (((Bk.new w 25 #[.slice A n c])).alloc (.cells #[.slice none 0 0] 25)) (Bk.new (w.alloc (.cells #[.slice A n c] 25)) 25 #[.slice none 0 0]))
    clear hid hW hn hfn hfz hS hr hf
    go_enter Try.func16, Try.ntmps16
    go_wp2_with fail
    have hB2 : ((w.alloc (.cells #[.slice A n c] 25)).alloc (.cells #[.slice none 0 0] 25)).heap.size = w.heap.size + 2 := by simp
    rw [World.size_alloc] at HC0
    generalize (w.alloc (.cells #[.slice A n c] 25)).alloc (.cells #[.slice none 0 0] 25) = w2 at *
    refine (cloneI_any L0 A n c HN.out.1 (by omega) w2 (HR.out.below HB0.out)).mono ?_
    rintro e w3 ⟨v0, rfl, ho0, hb3⟩
    rw [hB2, HN.out.1] at ho0
    have H3 := Lib.hid (And.intro ho0 (And.intro (hb3.mono (Nat.le_of_eq hB2.symm)) (And.intro HB0.out HC0.out)))
    have HSZ := Lib.hid (And.intro hB2 trivial)
    clear ho0 hb3 HB0 HC0 hB2
    go_wp2_with fail
    go_loopw [8, 27] (fun vl vk wr => ∃ (k : Nat) (L : List It), vk = .int .i64 (k : Nat) ∧ k ≤ fn ∧ L.length ≤ n + k ∧ Hid (SrtI L) ∧ Hid (wr.ownsRow (w.heap.size + 2) 46 4 vl L.length (itf L)) ∧ Hid (Below (w.heap.size + 2) w2 wr) ∧ Hid (withL id fs L0 = withL id (fs.drop k) L ∧ True)) (fun _ vk _ => fn - iOfI vk)
    case atStart => exact ⟨0, L0, rfl, by omega, by rw [HN.out.1]; omega, HS, Lib.hid (by rw [HN.out.1]; exact H3.out.1), Lib.hid H3.out.2.1, Lib.hid ⟨rfl, trivial⟩⟩
    case round =>
      obtain ⟨k, L, rfl, hk, hLl, HSL, HO, HBL, HE⟩ := hrel
      obtain ⟨_, A8, c8, rfl, hnc8, hcm8, hr8⟩ := Sl.own HO.out
      have HR8 := Lib.hid hr8
      obtain ⟨m, hm⟩ : ∃ m, L.length = m := ⟨_, rfl⟩
      have HLM := Lib.hid (And.intro hm trivial)
      rw [hm] at HO hLl hnc8 ⊢
      clear hr8 hm
      have hbw2 := H3.out.2.2.1.trans (HBL.out.mono (Nat.le_add_right _ 2))
      have cx := ((H3.out.2.2.2.1.below HBL.out (by omega)).cell 0)
      have cr := ((H3.out.2.2.2.2.below HBL.out (by omega)).cell 0)
      have fr := ((H3.out.2.2.2.2.below HBL.out (by omega)).frozen 0)
      simp only [List.getElem?_toArray, List.getElem?_cons_zero] at cx cr
      have HB := Lib.hid hbw2
      clear hbw2
      by_cases hkl : k < fn
      · have hkl1 : (k : Int) < (fn : Int) := by omega
        obtain ⟨f, hf⟩ : ∃ f, fs[k]? = some f := ⟨_, List.getElem?_eq_getElem (by rw [HFN.out.1]; exact hkl)⟩
        obtain ⟨fb, fo, rfl, q0, q1⟩ := (HF.out.below HB.out).fileX hf
        obtain ⟨fp, fd⟩ := f
        have HFI := Lib.hid hf
        clear hf
        go_wp2_with fail
        obtain ⟨e, he⟩ : ∃ e, okP fp = e := ⟨_, rfl⟩
        have HOK := Lib.hid (And.intro he trivial)
        have hfz := HFZ.out (fp, fd) (List.mem_of_getElem? HFI.out)
        have hfz : fp.size ≤ 100000000 ∧ fd.size ≤ 1000000000 := hfz
        have HFS := Lib.hid hfz
        refine (checkX_is fp e he _ (by omega)).mono ?_
        rintro e5 w5 ⟨rfl, hb5⟩
        have hb5' := below_of_alloc hb5
        have hbx : Bk w5 wr.heap.size 73 #[.string fp, .string fd] := (Bk.new wr 73 #[.string fp, .string fd]).below' hb5
        have x0 := hbx.cell_ 0 (.string fp) rfl
        have x1 := hbx.cell_ 1 (.string fd) rfl
        have cx5 := (hb5'.cell (World.block_lt_of_cell? wr _ cx)).trans cx
        have cr5 := (hb5'.cell (World.block_lt_of_cell? wr _ cr)).trans cr
        have fr5 := (hb5'.frozen (World.block_lt_of_cell? wr _ cr)).trans fr
        have HB5 := Lib.hid (And.intro hb5' (And.intro (bl HB.out hb5') hbx))
        clear hb5 hb5' hbx hfz he q0 q1 cx cr fr
        by_cases he0 : e = 0
        · have hne : (e != 0) = false := by simp [he0]
          subst he0
          have n0 := World.new_ne w5 _ x0
          have n1 := World.new_ne w5 _ x1
          go_upto_region 10 with (fail)
          obtain ⟨sm, hsm⟩ : ∃ sm, ofL (shaW fd.toList) = sm := ⟨_, rfl⟩
          obtain ⟨it, hit⟩ : ∃ it, itOf id (fp, fd) = it := ⟨_, rfl⟩
          have hit2 : it = ⟨fp, id, (fd.size : Nat), sm⟩ := by rw [← hit, ← hsm]; rfl
          have HSM := Lib.hid (And.intro hsm (And.intro hit hit2))
          clear hsm hit hit2
          have HK : Hid (∀ w', Below w5.heap.size w5 w' → Below w5.heap.size w5 w' ∧ w'.cell? ⟨wr.heap.size, 0, none⟩ = some (.string fp) ∧ w'.cell? ⟨wr.heap.size, 1, none⟩ = some (.string fd)) := Lib.hid fun w' h => ⟨h, (HB5.out.2.2.below' h).cell_ 0 (.string fp) rfl, (HB5.out.2.2.below' h).cell_ 1 (.string fd) rfl⟩
          go_cut [12] from 38 to 48 (fun v wx => ItBox w5 it v wx)
          case first =>
            clear x0 x1 cx5 cr5 fr5
            go_region_held3 (fun w' => Below w5.heap.size w5 w' ∧ w'.cell? ⟨wr.heap.size, 0, none⟩ = some (.string fp) ∧ w'.cell? ⟨wr.heap.size, 1, none⟩ = some (.string fd))
              (first | with_reducible exact HK.out _ (ka w5) | with_reducible exact HK.out _ (kb w5 _) | with_reducible exact HK.out _ (kc w5 _ _) | with_reducible exact HK.out _ hX | with_reducible exact HK.out _ (kd hX _) | with_reducible exact HK.out _ (ke hX _ (Nat.le_refl _) _ _ _ _) | with_reducible exact HK.out _ (ke hX _ (Nat.le_add_right _ 1) _ _ _ _))
              (first
                | (go_at_call 37; (with_reducible refine (shaSum_is fd sm HSM.out.1 _ 1 _ HFS.out.2 (Rd.new1a w5 _ _)).mono ?_); rintro e w6 ⟨rfl, hb6⟩; have hX := bl_one hb6)
                | (go_at_call 37; (with_reducible refine (shaSum_is fd sm HSM.out.1 _ 1 _ HFS.out.2 (Rd.new1b w5 _ _ _)).mono ?_); rintro e w6 ⟨rfl, hb6⟩; have hX := bl_two hb6; have hz := (Bk.two w5 _ _ _).below' hb6; have z0 := hz.cell_ 0 (.string ⟨#[]⟩) rfl; have z1 := hz.cell_ 1 (.int .i64 0) rfl; have z2 := hz.cell_ 2 (.int .i64 0) rfl; have z3 := hz.cell_ 3 (.string ⟨#[]⟩) rfl; have y0 := hz.frozen 0; have y1 := hz.frozen 1; have y2 := hz.frozen 2; have y3 := hz.frozen 3)
                | (go_at_call 37; (with_reducible refine (shaSum_is fd sm HSM.out.1 _ 1 _ HFS.out.2 (Rd.new1c w5 _ _ _)).mono ?_); rintro e w6 ⟨rfl, hb6⟩; have hX := bl_two hb6; have hz := (Bk.two' w5 _ _ _).below' hb6; have z0 := hz.cell_ 0 (.string ⟨#[]⟩) rfl; have z1 := hz.cell_ 1 (.int .i64 0) rfl; have z2 := hz.cell_ 2 (.int .i64 0) rfl; have z3 := hz.cell_ 3 (.string ⟨#[]⟩) rfl; have y0 := hz.frozen 0; have y1 := hz.frozen 1; have y2 := hz.frozen 2; have y3 := hz.frozen 3))
            all_goals
              go_wp2_with fail
              go_meet
              unfold ItBox
              rw [HSM.out.2.2]
              first
                | exact ⟨_, rfl, hX.size, Bk.new w6 _ _, kd hX _⟩
                | exact ⟨_, rfl, Nat.le_refl _, hz.four _ _ _ _, ke hX _ (Nat.le_refl _) _ _ _ _⟩
                | exact ⟨_, rfl, Nat.le_add_right _ 1, hz.four _ _ _ _, ke hX _ (Nat.le_add_right _ 1) _ _ _ _⟩
          case rest =>
            obtain ⟨h, rfl, hh, hbk, hbx⟩ := hcut
            have q0 := hbk.cell_ 0 (.string it.p) rfl
            have q1 := hbk.cell_ 1 (.int .i64 it.id) rfl
            have q2 := hbk.cell_ 2 (.int .i64 it.sz) rfl
            have q3 := hbk.cell_ 3 (.string it.sm) rfl
            have hb1 := bl HB5.out.1 hbx
            have HC := Lib.hid (And.intro hb1 (And.intro (bl HB5.out.2.1 hbx) (And.intro hbk (own_belowI HO.out hb1))))
            clear x0 x1 cx5 cr5 fr5 hbk hbx hb1 hh n0 n1
            go_wp2_with fail
            refine (bsearch_any L A8 m c8 HLM.out.1 HSL.out (by omega) it wc (HR8.out.below HC.out.1)).mono ?_
            rintro e7 w7 ⟨rfl, q7, os7, hw7⟩
            have hb7 : Below wc.heap.size wc w7 := by rw [hw7]; exact gr_bel _ _ _
            have hbk7 := HC.out.2.2.1.below' hb7
            have HD := Lib.hid (And.intro (bl HC.out.1 hb7) (And.intro (bl HC.out.2.1 hb7) (own_belowI HC.out.2.2.2 hb7)))
            have y0 := hbk7.cell_ 0 (.string it.p) rfl
            have y1 := hbk7.cell_ 1 (.int .i64 it.id) rfl
            have y2 := hbk7.cell_ 2 (.int .i64 it.sz) rfl
            have y3 := hbk7.cell_ 3 (.string it.sm) rfl
            clear hw7 hb7 hbk7 q0 q1 q2 q3
            have hpl := posI_le it.p L
            obtain ⟨pos, hpos⟩ : ∃ pos, posI it.p L = pos := ⟨_, rfl⟩
            rw [hpos, HLM.out.1] at hpl
            rw [hpos]
            have HP := Lib.hid (And.intro hpos trivial)
            clear hpos
            have hput := putI_split it L HSL.out
            have HST := Lib.hid (And.intro (putI_srt it L HSL.out) (And.intro (putI_len it L HSL.out) (withL_step id fs k (fp, fd) L HFI.out HOK.out.1)))
            obtain ⟨L2, hL2⟩ : ∃ L2, putI L it = L2 := ⟨_, rfl⟩
            rw [HSM.out.2.1, hL2] at HST
            have HL2 := Lib.hid (And.intro hL2 trivial)
            by_cases hf : foundI it.p L = true
            · rw [hf]
              obtain ⟨A1, B1, hL1, hp1, _, hor⟩ := hput
              rcases hor with ⟨_, y, B', hB1, hyp, _, hget, _, _⟩ | ⟨hff, _⟩
              · rw [HP.out.1] at hget
                have hposm : pos < m := by have := (List.getElem?_eq_some_iff.1 hget).1; rw [HLM.out.1] at this; exact this
                have hpm1 : (pos : Int) < (m : Int) := by omega
                have hL3 : L2 = if y.id ≤ it.id then L.set pos it else L := by
                  rw [← hL2]
                  unfold putI
                  rw [if_pos hf, HP.out.1, hget]
                have hidE : it.id = id := by rw [HSM.out.2.2]
                have HL3 := Lib.hid (And.intro hL3 hidE)
                obtain ⟨g, o, hA8, _, r0, r1, r2, r3⟩ := (HR8.out.below HD.out.1).item hget
                have hown := HD.out.2.2
                rcases hown.2 with ⟨h0, hm0⟩ | ⟨g', cap', cur, hv, hbg, hg, hnc', hcm', hcs, htk⟩
                · omega
                · rw [hA8] at hv
                  simp only [Value.slice.injEq, Option.some.injEq, Addr.mk.injEq, and_true, true_and] at hv
                  obtain ⟨⟨rfl, rfl⟩, rfl⟩ := hv
                  subst hA8
                  have hBg : Bk w7 g 46 cur := hg
                  have z0 := hBg.frozen (pos * 4)
                  have z1 := hBg.frozen (pos * 4 + 1)
                  have z2 := hBg.frozen (pos * 4 + 2)
                  have z3 := hBg.frozen (pos * 4 + 3)
                  rw [Nat.zero_add] at r0 r1 r2 r3
                  have hown2 := own_put hown pos it
                  have HO2 := Lib.hid (And.intro hown2 (And.intro hbg hown))
                  have hbig : Below (w.heap.size + 2) w2 w7 := HBL.out.trans (HD.out.1.mono (by have := HBL.out.size; have := HSZ.out.1; omega))
                  have HBG := Lib.hid (And.intro hbig (And.intro ((((hbig.setCell (p := ⟨g, pos * 4, none⟩) hbg (.string it.p)).setCell (p := ⟨g, pos * 4 + 1, none⟩) hbg (.int .i64 it.id)).setCell (p := ⟨g, pos * 4 + 2, none⟩) hbg (.int .i64 it.sz)).setCell (p := ⟨g, pos * 4 + 3, none⟩) hbg (.string it.sm)) trivial))
                  clear hL1 hp1 hB1 hyp hget hL3 hidE hown hown2 hBg hg hcs htk hbig hbg hL2 hf
                  by_cases hle : y.id ≤ id
                  · have hE : L2 = L.set pos it := by rw [HL3.out.1, HL3.out.2, if_pos hle]
                    have HEQ := Lib.hid (And.intro hE trivial)
                    clear hE
                    go_wp2_with fail
                    exact ⟨⟨k + 1, L2, by first | rfl | go_num, by omega, by have := HST.out.2.1; rw [HLM.out.1] at this; omega, Lib.hid HST.out.1, Lib.hid (by rw [HEQ.out.1, List.length_set, HLM.out.1]; exact HO2.out.1), Lib.hid HBG.out.2.1, Lib.hid ⟨by rw [HE.out.1, HST.out.2.2], trivial⟩⟩, by simp [iOfI]; omega⟩
                  · have hle2 : ¬ (y.id ≤ id) := hle
                    have hE : L2 = L := by rw [HL3.out.1, HL3.out.2, if_neg hle]
                    have HEQ := Lib.hid (And.intro hE trivial)
                    clear hE
                    go_wp2_with fail
                    go_round
                    case rel => exact ⟨k + 1, L2, by first | rfl | go_num, by omega, by have := HST.out.2.1; rw [HLM.out.1] at this; omega, Lib.hid HST.out.1, Lib.hid (by rw [HEQ.out.1, HLM.out.1]; exact HO2.out.2.2), Lib.hid HBG.out.1, Lib.hid ⟨by rw [HE.out.1, HST.out.2.2], trivial⟩⟩
                    case measure => simp [iOfI]; omega
              · rw [hf] at hff
                cases hff
            · have hf0 : foundI it.p L = false := by simpa using hf
              rw [hf0]
              have hL3 : L2 = L.take pos ++ it :: L.drop pos := by
                rw [← hL2]
                unfold putI
                rw [if_neg hf, HP.out.1]
              have HL3 := Lib.hid (And.intro hL3 trivial)
              clear hL2 hput hf hf0 hL3
              go_wp2_with fail
              have hbase : w.heap.size + 2 ≤ w7.heap.size := by have := HBL.out.size; have := HSZ.out.1; have := HD.out.1.size; omega
              refine (insert_any L (.slice A8 m c8) m pos (w.heap.size + 2) HLM.out.1 (by omega) hpl it w7 hbase HD.out.2.2).mono ?_
              rintro e8 w8 ⟨v8, rfl, ho8, hb8⟩
              rw [← HL3.out.1] at ho8
              have H8 := Lib.hid (And.intro ho8 (HBL.out.trans ((HD.out.1.mono (by have := HBL.out.size; have := HSZ.out.1; omega)).trans hb8)))
              clear ho8 hb8 y0 y1 y2 y3
              go_wp2_with fail
              go_round
              case rel => exact ⟨k + 1, L2, by first | rfl | go_num, by omega, by have := HST.out.2.1; rw [HLM.out.1] at this; omega, Lib.hid HST.out.1, Lib.hid H8.out.1, Lib.hid H8.out.2, Lib.hid ⟨by rw [HE.out.1, HST.out.2.2], trivial⟩⟩
              case measure => simp [iOfI]; omega
        · have hne : (e != 0) = true := by simp [he0]
          have hbad : withI L0 id fs = ([], e) := by
            rw [HW.out.1, HE.out.1, withL_bad id fs k (fp, fd) L HFI.out (by rw [HOK.out.1]; exact he0), HOK.out.1]
          have HBD := Lib.hid (And.intro hbad trivial)
          clear hbad
          go_wp2_with fail
          have hcc := World.cell?_setCell_same w5 ⟨w.heap.size + 1, 0, none⟩ (.slice none 0 0) cr5
          refine bodyPost_ret (v := .tuple #[.agg #[.slice none 0 0], .int .i64 e]) (by simp [results, Try.results16, go_sem, hcc]) rfl ?_
          rw [HBD.out.1]
          exact ⟨_, rfl, ⟨none, 0, rfl, by simp, by unfold maxLen; omega, Rd.nil _ _, fun ad h => by cases h⟩, HB5.out.2.1.setCell (p := ⟨w.heap.size + 1, 0, none⟩) (by simp) _⟩
      · obtain rfl : k = fn := by omega
        have hend : withI L0 id fs = if 512 < m then ([], 3) else (L, 0) := by
          rw [HW.out.1, HE.out.1, List.drop_of_length_le (by rw [HFN.out.1]; exact Nat.le_refl _), withL, HLM.out.1]
        have HEN := Lib.hid (And.intro hend trivial)
        clear hend
        by_cases h512 : 512 < m
        · have h1 : (512 : Int) < (m : Int) := by omega
          go_wp2_with fail
          have hcc := World.cell?_setCell_same wr ⟨w.heap.size + 1, 0, none⟩ (.slice none 0 0) cr
          refine bodyPost_ret (v := .tuple #[.agg #[.slice none 0 0], .int .i64 3]) (by simp [results, Try.results16, go_sem, hcc]) rfl ?_
          rw [HEN.out.1, if_pos h512]
          exact ⟨_, rfl, ⟨none, 0, rfl, by simp, by unfold maxLen; omega, Rd.nil _ _, fun ad h => by cases h⟩, HB.out.setCell (p := ⟨w.heap.size + 1, 0, none⟩) (by simp) _⟩
        · have h1 : ¬ ((512 : Int) < (m : Int)) := by omega
          go_wp2_with fail
          have hcc := World.cell?_setCell_same wr ⟨w.heap.size + 1, 0, none⟩ (.slice A8 m c8) cr
          refine bodyPost_ret (v := .tuple #[.agg #[.slice A8 m c8], .int .i64 0]) (by simp [results, Try.results16, go_sem, hcc]) rfl ?_
          rw [HEN.out.1, if_neg h512]
          refine ⟨_, rfl, ?_, HB.out.setCell (p := ⟨w.heap.size + 1, 0, none⟩) (by simp) _⟩
          exact ⟨A8, c8, by rw [HLM.out.1], by rw [HLM.out.1]; exact hnc8, hcm8, HR8.out.only (only_set wr (w.heap.size + 1) 0 _) (Off.fresh (fun ad hA => by subst hA; exact (HO.out.lt ad.block rfl).1) (by omega)), fun ad hA => by subst hA; have := (HO.out.lt ad.block rfl).1; omega⟩
end Go.Proofs.Ytnhbkfefpkocaaa
namespace Go.Proofs.Ytnhbkfefpkocaaa
open Go.RowKit Go.Sort

/-- An archive's number, and its files' slice. -/
structure Pt where
  id : Int
  fa : Option Addr
  fn : Nat
  fc : Nat
  fs : List Fl
def pf : List Pt → List Value
  | [] => []
  | x :: l => .int .i64 x.id :: .slice x.fa x.fn x.fc :: pf l
theorem pf_len (l : List Pt) : (pf l).length = l.length * 2 := by
  induction l with
  | nil => rfl
  | cons x l ih => simp only [pf, List.length_cons, ih]; omega
theorem pf_app (a b : List Pt) : pf (a ++ b) = pf a ++ pf b := by
  induction a with
  | nil => rfl
  | cons x a ih => simp only [List.cons_append, pf, ih]
theorem pf_get0 (l : List Pt) (i : Nat) : (pf l)[i * 2]? = l[i]?.map fun x => Value.int .i64 x.id := by
  induction l generalizing i with
  | nil => simp [pf]
  | cons x l ih =>
    cases i with
    | zero => rfl
    | succ i => rw [show (i + 1) * 2 = i * 2 + 1 + 1 by omega]; simp only [pf, List.getElem?_cons_succ]; exact ih i
theorem pf_get1 (l : List Pt) (i : Nat) : (pf l)[i * 2 + 1]? = l[i]?.map fun x => Value.slice x.fa x.fn x.fc := by
  induction l generalizing i with
  | nil => simp [pf]
  | cons x l ih =>
    cases i with
    | zero => rfl
    | succ i => rw [show (i + 1) * 2 + 1 = i * 2 + 1 + 1 + 1 by omega]; simp only [pf, List.getElem?_cons_succ]; exact ih i
theorem Rd.part {w : World} {A : Option Addr} {l : List Pt} (h : Rd w A (pf l)) {i : Nat} {x : Pt} (hx : l[i]? = some x) : ∃ b o, A = some ⟨b, o, none⟩ ∧ b < w.heap.size ∧ w.cell? ⟨b, o + i * 2, none⟩ = some (.int .i64 x.id) ∧ w.cell? ⟨b, o + i * 2 + 1, none⟩ = some (.slice x.fa x.fn x.fc) := by
  have hi : i < l.length := (List.getElem?_eq_some_iff.1 hx).1
  obtain ⟨b, o, e, hc⟩ := h (by intro e; have := pf_len l; rw [e] at this; simp at this; omega)
  have q0 := hc (i * 2) (.int .i64 x.id) (by rw [pf_get0, hx]; rfl)
  have q1 := hc (i * 2 + 1) (.slice x.fa x.fn x.fc) (by rw [pf_get1, hx]; rfl)
  exact ⟨b, o, e, World.block_lt_of_cell? w _ q0, q0, q1⟩
/-- Each archive's files are there. -/
def PtOk (w : World) (x : Pt) : Prop := x.fs.length = x.fn ∧ x.fn ≤ x.fc ∧ x.fc ≤ maxLen ∧ Rd w x.fa (fl x.fs)
theorem PtOk.below {w w' : World} {x : Pt} (h : PtOk w x) (hb : Below w.heap.size w w') : PtOk w' x := ⟨h.1, h.2.1, h.2.2.1, h.2.2.2.below hb⟩
/-- Not too many, nor too great. -/
def PtFew (x : Pt) : Prop := x.fs.length ≤ 40 ∧ ∀ f ∈ x.fs, f.1.size ≤ 20000 ∧ f.2.size ≤ 20000
theorem Rd.takeFX {w : World} {A : Option Addr} {l : List Fl} (h : Rd w A (fl l)) (k : Nat) : Rd w A (fl (l.take k)) := by
  have h1 := h.take (k * 2)
  have e : (fl l).take (k * 2) = fl (l.take k) := by
    clear h h1
    induction k generalizing l with
    | zero => simp [fl]
    | succ k ih =>
      cases l with
      | nil => simp [fl]
      | cons x l => rw [show (k + 1) * 2 = k * 2 + 1 + 1 by omega]; simp only [fl, List.take_succ_cons]; rw [ih]
  rw [e] at h1
  exact h1
theorem Try.info37 : (Try.prog.info? 37).map (fun i => (i.zero, i.size, i.bytes)) = some (some (.agg #[.int .i64 0, .slice none 0 0]), 2, 32) := by kernel_rfl
theorem el_part : El Try.prog 22 37 2 32 := El.mk_ (z := .agg #[.int .i64 0, .slice none 0 0]) Try.underlying22 Try.info37 (by omega) rfl
theorem small_stepX {l : List Fl} {k : Nat} {x : Fl} {B : Nat} (h : ∀ y ∈ l.take k, y.1.size ≤ B ∧ y.2.size ≤ B) (hx : l[k]? = some x) (h1 : x.1.size ≤ B) (h2 : x.2.size ≤ B) : ∀ y ∈ l.take (k + 1), y.1.size ≤ B ∧ y.2.size ≤ B := by
  intro y hy
  rw [List.take_add_one, hx] at hy
  rcases List.mem_append.1 hy with hy | hy
  · exact h y hy
  · simp at hy; subst hy; exact ⟨h1, h2⟩
/-- Behind few. -/
def FewEnd (w0 w : World) (e : Ending) (w' : World) : Prop := ∃ (P : List Pt) (v : Value), e = .returned v ∧ w'.ownsRow w.heap.size 37 2 v P.length (pf P) ∧ P.length ≤ 12 ∧ (∀ x ∈ P, PtOk w0 x ∧ PtFew x) ∧ Below w.heap.size w w'

set_option maxRecDepth 20000 in
set_option maxHeartbeats 4000000 in
theorem few_any (P : List Pt) (A : Option Addr) (n c : Nat) (hn : P.length = n) (hnb : n ≤ 9223372036854775807) (w0 w : World) (hw0 : Below w0.heap.size w0 w) (hr : Rd w A (pf P)) (hok : ∀ x ∈ P, PtOk w0 x) :
    Calls Try.prog 15 #[.slice A n c] w (FewEnd w0 w) := by
  have HW0 := Lib.hid hw0
  clear hw0
  have HN := Lib.hid (And.intro hn trivial)
  have mixed : Try.prog.follows Departure.mixedOrders = true := by kernel_rfl
  have HR := Lib.hid hr
  have HOK := Lib.hid hok
  clear hn hr hok
  go_enter Try.func15, Try.ntmps15
  go_wp2_with fail
  go_loopw [3, 4, 5] (fun vo vs vi wr => ∃ (i s : Nat) (Q : List Pt), vi = .int .i64 (i : Nat) ∧ vs = .int .i64 (s : Nat) ∧ i ≤ n ∧ i ≤ 12 ∧ s ≤ 20000 ∧ Hid (Q.length = i ∧ True) ∧ Hid (wr.ownsRow w.heap.size 37 2 vo i (pf Q)) ∧ Hid (∀ x ∈ Q, PtOk w0 x ∧ PtFew x) ∧ Hid (Below w.heap.size w wr)) (fun _ _ vi _ => n - iOfI vi)
  case atStart => exact ⟨0, 0, [], rfl, rfl, by omega, by omega, by omega, Lib.hid ⟨rfl, trivial⟩, Lib.hid ⟨rfl, Or.inl ⟨rfl, rfl⟩⟩, Lib.hid (by simp), Lib.hid (Below.refl _ _)⟩
  case round =>
    obtain ⟨i, s, Q, rfl, rfl, hi, hi12, hs, HQ, HO, HF, HB⟩ := hrel
    have hend : FewEnd w0 w (.returned u3) wr := ⟨Q, u3, rfl, by rw [HQ.out.1]; exact HO.out, by rw [HQ.out.1]; exact hi12, HF.out, HB.out⟩
    have HEND := Lib.hid hend
    clear hend
    by_cases hin : i < n
    · have hin1 : (i : Int) < (n : Int) := by omega
      by_cases h12 : i < 12
      · have h121 : (i : Int) < 12 := by omega
        obtain ⟨x, hx⟩ : ∃ x, P[i]? = some x := ⟨_, List.getElem?_eq_getElem (by rw [HN.out.1]; exact hin)⟩
        obtain ⟨b, o, rfl, hbl, q0, q1⟩ := (HR.out.below HB.out).part hx
        have hokx := HOK.out x (List.mem_of_getElem? hx)
        obtain ⟨id, FA, fn, fc, fs⟩ := x
        obtain ⟨hfl, hnc, hcm, hrf⟩ := hokx
        simp only at hfl hnc hcm hrf q0 q1
        have HX := Lib.hid (And.intro hfl (And.intro hrf hx))
        clear hfl hrf hx
        by_cases h40 : 40 < fn
        · have h401 : (40 : Int) < (fn : Int) := by omega
          have h402 : (40 : Int) ≤ (fc : Int) := by omega
          go_wp2_with fail
          have hbx := Bk.new wr 37 #[.int .i64 id, .slice FA 40 fc]
          have hba := HB.out.alloc HB.out.size (.cells #[.int .i64 id, .slice FA 40 fc] 37)
          have HB2 := Lib.hid (And.intro hbx (And.intro hba (HO.out.alloc (.cells #[.int .i64 id, .slice FA 40 fc] 37))))
          have hszA : (wr.alloc (.cells #[.int .i64 id, .slice FA 40 fc] 37)).heap.size = wr.heap.size + 1 := by simp
          obtain ⟨g, hg⟩ : ∃ g, wr.heap.size = g := ⟨_, rfl⟩
          rw [hg] at HB2 hszA ⊢
          have HSZ := Lib.hid (And.intro hszA (And.intro hg HB.out.size))
          clear hbx hba hszA hg q0 q1
          generalize wr.alloc (.cells #[.int .i64 id, .slice FA 40 fc] 37) = wa at *
          go_loopw [4, 7] (fun vs vk wr => ∃ (k t : Nat), vk = .int .i64 (k : Nat) ∧ vs = .int .i64 (t : Nat) ∧ k ≤ 40 ∧ t ≤ 20000 + k * 2097152 ∧ k ≤ 40 ∧ Hid (t ≤ 20000 → ∀ y ∈ fs.take k, y.1.size ≤ 20000 ∧ y.2.size ≤ 20000) ∧ Hid (∃ q, wr = wa.drewN q)) (fun _ vk _ => 40 - iOfI vk)
          case atStart => exact ⟨0, s, rfl, rfl, by omega, by omega, by omega, Lib.hid (by simp), Lib.hid ⟨0, rfl⟩⟩
          case round =>
            obtain ⟨k, t, rfl, rfl, hk, ht, hk40, HT, HW⟩ := hrel
            obtain ⟨q, hq⟩ := HW.out
            have hbk : Bk wr g 37 #[.int .i64 id, .slice FA 40 fc] := by rw [hq]; exact HB2.out.1
            have hbl2 : Below w.heap.size w wr := by rw [hq]; exact below_dnS HB2.out.2.1 q
            have p0 := hbk.cell_ 0 (.int .i64 id) rfl
            have p1 := hbk.cell_ 1 (.slice FA 40 fc) rfl
            have HBW := Lib.hid (And.intro hbl2 (show wr.ownsRow w.heap.size 37 2 u3 i (pf Q) by rw [hq]; exact HB2.out.2.2))
            have hgs : g < wr.heap.size := hbk.lt
            clear hq hbk hbl2
            by_cases hkm : k < 40
            · have hkm1 : (k : Int) < 40 := by omega
              obtain ⟨f, hf⟩ : ∃ f, fs[k]? = some f := ⟨_, List.getElem?_eq_getElem (by rw [HX.out.1]; omega)⟩
              obtain ⟨fb, fo, rfl, r0, r1⟩ := ((HX.out.2.1.below HW0.out).below HBW.out.1).fileX hf
              obtain ⟨fp, fd⟩ := f
              obtain ⟨pz, hpz⟩ : ∃ p : Nat, min (fp.size : Int) 1048576 = p := ⟨min fp.size 1048576, by omega⟩
              obtain ⟨dz, hdz⟩ : ∃ d : Nat, min (fd.size : Int) 1048576 = d := ⟨min fd.size 1048576, by omega⟩
              have hp2 : pz ≤ 1048576 := by omega
              have hd2 : dz ≤ 1048576 := by omega
              have w1 : IntKind.i64.wrap ((t : Int) + (pz : Int)) = (t : Int) + (pz : Int) := by rw [IntKind.wrap_i64]; omega
              have w2 : IntKind.i64.wrap ((t : Int) + (pz : Int) + (dz : Int)) = (t : Int) + (pz : Int) + (dz : Int) := by rw [IntKind.wrap_i64]; omega
              have HPD := Lib.hid (show (pz ≤ 20000 → fp.size ≤ 20000) ∧ (dz ≤ 20000 → fd.size ≤ 20000) from ⟨by omega, by omega⟩)
              have HFK := Lib.hid (And.intro hf trivial)
              clear hf
              go_wp2_with fail
              go_quiet (fail)
              go_wp2_with fail
              go_round
              case rel => exact ⟨k + 1, t + pz + dz, by first | rfl | go_num, by first | rfl | go_num | (congr 1; omega), by omega, by omega, by omega, Lib.hid (fun hle => small_stepX (HT.out (by omega)) HFK.out.1 (HPD.out.1 (by omega)) (HPD.out.2 (by omega))), Lib.hid (by obtain ⟨q, hq⟩ := HW.out; exact ⟨q + nq, by rw [hq, World.drewN_drewN]⟩)⟩
              case measure => simp [iOfI]; omega
            · obtain rfl : k = 40 := by omega
              by_cases hbig : 20000 < t
              · have hbig1 : (20000 : Int) < (t : Int) := by omega
                go_wp2_with fail
                go_ret
                exact ⟨Q, u3, rfl, by rw [HQ.out.1]; exact HBW.out.2, by rw [HQ.out.1]; exact hi12, HF.out, HBW.out.1⟩
              · have hbig1 : ¬ ((20000 : Int) < (t : Int)) := by omega
                have hone : ∀ u ∈ (#[.int .i64 id, .slice FA 40 fc] : Array Value).toList, u.oneCell' = true := fun u hu => by
                  simp at hu
                  rcases hu with rfl | rfl <;> rfl
                have hbase : w.heap.size ≤ wr.heap.size := HBW.out.1.size
                go_wp2_with (at_builtin; go_must (refine wpList_append_new _ rfl (.tmp 59) (.tmp 61) 22 rfl w.heap.size 37 2 32 el_part _ _ _ HBW.out.2 (by rfl) _ (by rfl) rfl hone (by unfold maxLen; omega) (by omega) hbase ?_); intro v5 w5 ho5 hb5)
                have hpt : PtOk w0 ⟨id, FA, 40, fc, fs.take 40⟩ ∧ PtFew ⟨id, FA, 40, fc, fs.take 40⟩ := by
                  have hlt : (fs.take 40).length = 40 := by rw [List.length_take, HX.out.1]; omega
                  exact ⟨⟨hlt, by show 40 ≤ fc; omega, hcm, HX.out.2.1.takeFX 40⟩, by show (fs.take 40).length ≤ 40; rw [hlt]; omega, HT.out (by omega)⟩
                have ho6 : w5.ownsRow w.heap.size 37 2 v5 (i + 1) (pf (Q ++ [⟨id, FA, 40, fc, fs.take 40⟩])) := by
                  rw [pf_app]
                  exact ho5
                have H6 := Lib.hid (And.intro ho6 (And.intro hpt (HBW.out.1.trans hb5)))
                clear ho5 hb5 ho6 hpt hone
                first
                  | (go_round
                     case rel => exact ⟨i + 1, t, Q ++ [⟨id, FA, 40, fc, fs.take 40⟩], by first | rfl | go_num, rfl, by omega, by omega, by omega, Lib.hid ⟨by rw [List.length_append, HQ.out.1]; rfl, trivial⟩, Lib.hid H6.out.1, Lib.hid (fun y hy => by
                       rcases List.mem_append.1 hy with h | h
                       · exact HF.out y h
                       · simp at h; rw [h]; exact H6.out.2.1), Lib.hid H6.out.2.2⟩
                     case measure => simp [iOfI]; omega)
                  | exact ⟨⟨i + 1, t, Q ++ [⟨id, FA, 40, fc, fs.take 40⟩], by first | rfl | go_num, rfl, by omega, by omega, by omega, Lib.hid ⟨by rw [List.length_append, HQ.out.1]; rfl, trivial⟩, Lib.hid H6.out.1, Lib.hid (fun y hy => by
                       rcases List.mem_append.1 hy with h | h
                       · exact HF.out y h
                       · simp at h; rw [h]; exact H6.out.2.1), Lib.hid H6.out.2.2⟩, by simp [iOfI]; omega⟩
        · have h401 : ¬ ((40 : Int) < (fn : Int)) := by omega
          go_wp2_with fail
          have hbx := Bk.new wr 37 #[.int .i64 id, .slice FA fn fc]
          have hba := HB.out.alloc HB.out.size (.cells #[.int .i64 id, .slice FA fn fc] 37)
          have HB2 := Lib.hid (And.intro hbx (And.intro hba (HO.out.alloc (.cells #[.int .i64 id, .slice FA fn fc] 37))))
          have hszA : (wr.alloc (.cells #[.int .i64 id, .slice FA fn fc] 37)).heap.size = wr.heap.size + 1 := by simp
          obtain ⟨g, hg⟩ : ∃ g, wr.heap.size = g := ⟨_, rfl⟩
          rw [hg] at HB2 hszA ⊢
          have HSZ := Lib.hid (And.intro hszA (And.intro hg HB.out.size))
          clear hbx hba hszA hg q0 q1
          generalize wr.alloc (.cells #[.int .i64 id, .slice FA fn fc] 37) = wa at *
          go_loopw [4, 7] (fun vs vk wr => ∃ (k t : Nat), vk = .int .i64 (k : Nat) ∧ vs = .int .i64 (t : Nat) ∧ k ≤ fn ∧ t ≤ 20000 + k * 2097152 ∧ k ≤ 40 ∧ Hid (t ≤ 20000 → ∀ y ∈ fs.take k, y.1.size ≤ 20000 ∧ y.2.size ≤ 20000) ∧ Hid (∃ q, wr = wa.drewN q)) (fun _ vk _ => fn - iOfI vk)
          case atStart => exact ⟨0, s, rfl, rfl, by omega, by omega, by omega, Lib.hid (by simp), Lib.hid ⟨0, rfl⟩⟩
          case round =>
            obtain ⟨k, t, rfl, rfl, hk, ht, hk40, HT, HW⟩ := hrel
            obtain ⟨q, hq⟩ := HW.out
            have hbk : Bk wr g 37 #[.int .i64 id, .slice FA fn fc] := by rw [hq]; exact HB2.out.1
            have hbl2 : Below w.heap.size w wr := by rw [hq]; exact below_dnS HB2.out.2.1 q
            have p0 := hbk.cell_ 0 (.int .i64 id) rfl
            have p1 := hbk.cell_ 1 (.slice FA fn fc) rfl
            have HBW := Lib.hid (And.intro hbl2 (show wr.ownsRow w.heap.size 37 2 u3 i (pf Q) by rw [hq]; exact HB2.out.2.2))
            have hgs : g < wr.heap.size := hbk.lt
            clear hq hbk hbl2
            by_cases hkm : k < fn
            · have hkm1 : (k : Int) < (fn : Int) := by omega
              obtain ⟨f, hf⟩ : ∃ f, fs[k]? = some f := ⟨_, List.getElem?_eq_getElem (by rw [HX.out.1]; omega)⟩
              obtain ⟨fb, fo, rfl, r0, r1⟩ := ((HX.out.2.1.below HW0.out).below HBW.out.1).fileX hf
              obtain ⟨fp, fd⟩ := f
              obtain ⟨pz, hpz⟩ : ∃ p : Nat, min (fp.size : Int) 1048576 = p := ⟨min fp.size 1048576, by omega⟩
              obtain ⟨dz, hdz⟩ : ∃ d : Nat, min (fd.size : Int) 1048576 = d := ⟨min fd.size 1048576, by omega⟩
              have hp2 : pz ≤ 1048576 := by omega
              have hd2 : dz ≤ 1048576 := by omega
              have w1 : IntKind.i64.wrap ((t : Int) + (pz : Int)) = (t : Int) + (pz : Int) := by rw [IntKind.wrap_i64]; omega
              have w2 : IntKind.i64.wrap ((t : Int) + (pz : Int) + (dz : Int)) = (t : Int) + (pz : Int) + (dz : Int) := by rw [IntKind.wrap_i64]; omega
              have HPD := Lib.hid (show (pz ≤ 20000 → fp.size ≤ 20000) ∧ (dz ≤ 20000 → fd.size ≤ 20000) from ⟨by omega, by omega⟩)
              have HFK := Lib.hid (And.intro hf trivial)
              clear hf
              go_wp2_with fail
              go_quiet (fail)
              go_wp2_with fail
              go_round
              case rel => exact ⟨k + 1, t + pz + dz, by first | rfl | go_num, by first | rfl | go_num | (congr 1; omega), by omega, by omega, by omega, Lib.hid (fun hle => small_stepX (HT.out (by omega)) HFK.out.1 (HPD.out.1 (by omega)) (HPD.out.2 (by omega))), Lib.hid (by obtain ⟨q, hq⟩ := HW.out; exact ⟨q + nq, by rw [hq, World.drewN_drewN]⟩)⟩
              case measure => simp [iOfI]; omega
            · obtain rfl : k = fn := by omega
              by_cases hbig : 20000 < t
              · have hbig1 : (20000 : Int) < (t : Int) := by omega
                go_wp2_with fail
                go_ret
                exact ⟨Q, u3, rfl, by rw [HQ.out.1]; exact HBW.out.2, by rw [HQ.out.1]; exact hi12, HF.out, HBW.out.1⟩
              · have hbig1 : ¬ ((20000 : Int) < (t : Int)) := by omega
                have hone : ∀ u ∈ (#[.int .i64 id, .slice FA k fc] : Array Value).toList, u.oneCell' = true := fun u hu => by
                  simp at hu
                  rcases hu with rfl | rfl <;> rfl
                have hbase : w.heap.size ≤ wr.heap.size := HBW.out.1.size
                go_wp2_with (at_builtin; go_must (refine wpList_append_new _ rfl (.tmp 59) (.tmp 61) 22 rfl w.heap.size 37 2 32 el_part _ _ _ HBW.out.2 (by rfl) _ (by rfl) rfl hone (by unfold maxLen; omega) (by omega) hbase ?_); intro v5 w5 ho5 hb5)
                have hpt : PtOk w0 ⟨id, FA, k, fc, fs.take k⟩ ∧ PtFew ⟨id, FA, k, fc, fs.take k⟩ := by
                  have hlt : (fs.take k).length = k := by rw [List.length_take, HX.out.1]; omega
                  exact ⟨⟨hlt, by show k ≤ fc; omega, hcm, HX.out.2.1.takeFX k⟩, by show (fs.take k).length ≤ 40; rw [hlt]; omega, HT.out (by omega)⟩
                have ho6 : w5.ownsRow w.heap.size 37 2 v5 (i + 1) (pf (Q ++ [⟨id, FA, k, fc, fs.take k⟩])) := by
                  rw [pf_app]
                  exact ho5
                have H6 := Lib.hid (And.intro ho6 (And.intro hpt (HBW.out.1.trans hb5)))
                clear ho5 hb5 ho6 hpt hone
                first
                  | (go_round
                     case rel => exact ⟨i + 1, t, Q ++ [⟨id, FA, k, fc, fs.take k⟩], by first | rfl | go_num, rfl, by omega, by omega, by omega, Lib.hid ⟨by rw [List.length_append, HQ.out.1]; rfl, trivial⟩, Lib.hid H6.out.1, Lib.hid (fun y hy => by
                       rcases List.mem_append.1 hy with h | h
                       · exact HF.out y h
                       · simp at h; rw [h]; exact H6.out.2.1), Lib.hid H6.out.2.2⟩
                     case measure => simp [iOfI]; omega)
                  | exact ⟨⟨i + 1, t, Q ++ [⟨id, FA, k, fc, fs.take k⟩], by first | rfl | go_num, rfl, by omega, by omega, by omega, Lib.hid ⟨by rw [List.length_append, HQ.out.1]; rfl, trivial⟩, Lib.hid H6.out.1, Lib.hid (fun y hy => by
                       rcases List.mem_append.1 hy with h | h
                       · exact HF.out y h
                       · simp at h; rw [h]; exact H6.out.2.1), Lib.hid H6.out.2.2⟩, by simp [iOfI]; omega⟩
      · have h121 : ¬ ((i : Int) < 12) := by omega
        go_wp2_with fail
        go_ret
        exact HEND.out
    · have hin1 : ¬ ((i : Int) < (n : Int)) := by omega
      go_wp2_with fail
      go_ret
      exact HEND.out
end Go.Proofs.Ytnhbkfefpkocaaa
