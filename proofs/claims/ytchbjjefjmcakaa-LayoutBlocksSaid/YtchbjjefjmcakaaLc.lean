/- The marker's small methods. -/
import Derived.Test.YtchbjjefjmcakaaLa
import Derived.StillTailTactics
namespace Go.Proofs.Ytchbjjefjmcakaa.Lb
open Go.RowKit Go.Proofs.Ytchbjjefjmcakaa.PLayoutBlocks Go.Proofs.YtchbjjefjmcakaaW.PrintWords Go.Proofs.YtchbjjefjmcakaaW.PrintLast Go.Proofs.YtchbjjefjmcakaaW.PrintMore
set_option linter.unusedVariables false
set_option linter.unusedSimpArgs false
/-- The two cells are those of a marker. -/
structure Mkr (p : Pm) (g : Nat) : Prop where
  hs : p.hs = ⟨g, 0, none⟩
  ho : p.ho = ⟨g, 1, none⟩
  es : p.es = 41
theorem info41 : (Try.prog.info? 41).map (fun i => (i.zero, i.size, i.bytes)) = some (some (.agg #[.int .i64 0, .string ⟨#[]⟩]), 2, 24) := by kernel_rfl
theorem info27 : (Try.prog.info? 27).map (fun i => (i.zero, i.size, i.bytes)) = some (some (.agg #[.int .i64 0, .string ⟨#[]⟩, .int .i64 0, .int .i64 0, .int .i64 0]), 5, 48) := by kernel_rfl
theorem info41' : ∃ i, Try.prog.info? 41 = some i := (Option.map_eq_some_iff.1 info41).imp fun _ h => h.1
/-- The innermost frame. -/
def tp (st : List Fr) : Fr := (st.getLast?).getD (0, ⟨#[]⟩)
theorem tp_nil : tp [] = (0, ⟨#[]⟩) := rfl
theorem tp_snoc (st : List Fr) (y : Fr) : tp (st ++ [y]) = y := by simp [tp]
theorem snoc_cases (st : List Fr) : st = [] ∨ ∃ l y, st = l ++ [y] := by
  rcases List.eq_nil_or_concat st with h | ⟨l, y, h⟩
  · exact .inl h
  · exact .inr ⟨l, y, by rw [h, List.concat_eq_append]⟩
theorem snoc_at (st : List Fr) (y : Fr) : (st ++ [y])[st.length]? = some y := by simp
def top.T3 : Bool × List (List Nat × List Nat) := (true, [([], []), ([0], [0]), ([1], [1]), ([2], [2]), ([], []), ([4], [4]), ([5], [5]), ([6], [6]), ([7], [7]), ([8], [8]), ([3, 9], [3, 9]), ([10], [10]), ([11, 0, 1, 2, 3, 4, 5, 6, 7, 8, 9, 10, 11], [11])])
def top.B3 : List Nat := [0, 1, 3, 7, 0, 16, 48, 112, 240, 496, 1023, 2047, 4095]
theorem top.tab3 : rtab .any (opsOf Try.f15 3) = top.T3 := by kernel_rfl
theorem top.bits3 : waitsOk top.T3.2 top.B3 = true := by kernel_rfl
set_option maxRecDepth 100000 in
theorem top_calls {p : Pm} {g : Nat} (hm : Mkr p g) {As Ao : Option Addr} {cs co : Nat} {st : List Fr} {out : List S27} {W : World} (h : Two p As cs st Ao co out W) (hl : st.length < 1000000) :
    Calls Try.prog 15 #[.pointer (some ⟨g, 0, none⟩)] W fun e w' => e = .returned (.agg #[.int .i64 (tp st).1, .string (tp st).2]) ∧ Below W.heap.size W w' := by
  have c0 : ∀ o, (W.alloc o).cell? ⟨g, 0, none⟩ = some (.slice As st.length cs) := fun o => by
    have := (h.up (below_alloc (Below.refl _ _) o)).cS
    rwa [hm.hs] at this
  have hl2 : (st.length : Int) < 1000000 := by omega
  rcases snoc_cases st with rfl | ⟨l, y, rfl⟩
  · clear h
    go_enter Try.func15, Try.ntmps15
    go_wp2_with fail
    refine bodyPost_ret (results_cell_row rfl _ _ W.heap.size 41 _ (0, 0) _ rfl (blk_new W _) rfl rfl rfl) rfl ?_
    exact ⟨rfl, below_alloc (Below.refl _ _) _⟩
  · rw [tp_snoc]
    obtain ⟨gs, rfl, _, _⟩ := h.atS (snoc_at l y)
    obtain ⟨m, hm0⟩ : ∃ m, m = (l ++ [y]).length := ⟨_, rfl⟩
    obtain ⟨j, hj0⟩ : ∃ j, j = l.length := ⟨_, rfl⟩
    have C0 := Go.Lib.hid (show ∀ w', Below W.heap.size W w' → w'.cell? ⟨g, 0, none⟩ = some (.slice (some ⟨gs, 0, none⟩) m cs) from fun w' hb => by
      have := (h.up hb).cS
      rw [hm.hs, ← hm0] at this
      exact this)
    have X0 := Go.Lib.hid (show ∀ w', Below W.heap.size W w' → w'.cell? ⟨gs, j * 2, none⟩ = some (.int .i64 y.1) from fun w' hb => by
      obtain ⟨_, e, h1, _⟩ := (h.up hb).atS (snoc_at l y)
      cases e
      rw [hj0]; exact h1)
    have X1 := Go.Lib.hid (show ∀ w', Below W.heap.size W w' → w'.cell? ⟨gs, j * 2 + 1, none⟩ = some (.string y.2) from fun w' hb => by
      obtain ⟨_, e, _, h1⟩ := (h.up hb).atS (snoc_at l y)
      cases e
      rw [hj0]; exact h1)
    have c1 := fun o => C0.out (W.alloc o) (below_alloc (Below.refl _ _) o)
    have hmj : (m : Int) - 1 = (j : Int) := by rw [hm0, hj0]; simp
    have hj1 : (j : Int) < (m : Int) := by omega
    have hne : ¬ (m : Int) = 0 := by omega
    rw [← hm0] at hl2
    have hw : IntKind.i64.wrap ((m : Int) - 1) = (j : Int) := by rw [IntKind.wrap_i64]; omega
    have hp0 : (0 : Int) ≤ (j : Int) := by omega
    have hne0 : ((m : Int) == 0) = false := beq_eq_false_iff_ne.mpr hne
    clear h hm0 hl hj0 hl2 hmj hne c0
    go_enter Try.func15, Try.ntmps15
    go_wp2_with fail
    clear c1
    have hBW0 := below_drew1 (below_alloc (Below.refl W.heap.size W) (.cells #[.int .i64 0, .string ⟨#[]⟩] 41))
    have hRB0 := blk_drew (blk_new W (.cells #[.int .i64 0, .string ⟨#[]⟩] 41))
    refine start_ (n := 13) (S := fun w' => True) (ds := []) #[false, false, false, false, false, false, false, false, false, false, false, false, false] (by kernel_rfl) rfl rfl trivial (fun hHeld => ?_)
    refine with_tabW top.tab3 top.bits3 (fun HT_ HW_ => ?_)
    refine inv_at [0, 1, 2, 3, 4, 5, 6, 7, 8, 9, 10, 11, 12] (fun a0_ b a w' => a = putSel a0_ b [(0, 10, .pointer (some ⟨g, 0, none⟩)), (1, 11, .pointer (some ⟨g, 0, none⟩)), (2, 12, .pointer (some ⟨g, 0, none⟩)), (3, 13, .slice (some ⟨gs, 0, none⟩) m cs), (4, 14, .pointer (some ⟨g, 0, none⟩)), (5, 15, .pointer (some ⟨g, 0, none⟩)), (6, 16, .pointer (some ⟨g, 0, none⟩)), (7, 17, .slice (some ⟨gs, 0, none⟩) m cs), (8, 18, .int .i64 (m : Int)), (9, 19, .int .i64 (j : Int)), (10, 20, .pointer (some ⟨gs, j * 2, none⟩)), (11, 21, .agg #[.int .i64 y.1, .string y.2])] ∧ (Below W.heap.size W w') ∧ (b 12 = false → w'.heap[W.heap.size]? = some (.cells #[.int .i64 0, .string ⟨#[]⟩] 41 (0, 0))) ∧ (b 12 = true → w'.heap[W.heap.size]? = some (.cells #[.int .i64 y.1, .string y.2] 41 (0, 0)))) HT_.out HW_.out (by kernel_rfl) (by kernel_rfl) ?_ ?_ ?_
    · exact ⟨by simp only [putSel, Bool.false_eq_true, if_false], hBW0, fun _ => hRB0, fun h_ => absurd h_ (by decide)⟩
    · skip
      refine steps_cons ?_ ?_
      · rintro b a w' ⟨ha, Q_BW, Q_RB, Q_RC⟩ hb_ hon hoff
        refine ⟨_, rfl, fun K hK => ?_⟩
        have e0 : a.tmps[0]? = some (.pointer (some ⟨g, 0, none⟩)) := by rw [ha]; exact (putSel_off rfl).trans rfl
        replace ha := Aside0.mk ha
        have BW := Aside0.mk Q_BW
        have RB := Aside0.mk (Q_RB (hoff 12 (by kernel_rfl)))
        refine value_ (w1 := w') (v := .pointer (some ⟨g, 0, none⟩)) (by rfl) rfl ?_ ?_
        · go_simp
          (try simp only [i64_w])
          try rfl
        refine hK.out _ _ ⟨(by rw [ha.out]; exact putSel_upk 0 hb_ rfl rfl rfl), Q_BW, Q_RB, fun h0_ => absurd ((hoff 12 (by kernel_rfl)).symm.trans h0_) (by decide)⟩
      refine steps_cons ?_ ?_
      · rintro b a w' ⟨ha, Q_BW, Q_RB, Q_RC⟩ hb_ hon hoff
        refine ⟨_, rfl, fun K hK => ?_⟩
        have e10 : a.tmps[10]? = some (.pointer (some ⟨g, 0, none⟩)) := by rw [ha]; exact putSel_on (e := (0, 10, .pointer (some ⟨g, 0, none⟩))) 0 rfl rfl (hon 0 (by kernel_rfl)) rfl
        replace ha := Aside0.mk ha
        have BW := Aside0.mk Q_BW
        have RB := Aside0.mk (Q_RB (hoff 12 (by kernel_rfl)))
        refine value_ (w1 := w') (v := .pointer (some ⟨g, 0, none⟩)) (by rfl) rfl ?_ ?_
        · go_simp
          (try simp only [i64_w])
          try rfl
        refine hK.out _ _ ⟨(by rw [ha.out]; exact putSel_upk 1 hb_ rfl rfl rfl), Q_BW, Q_RB, fun h0_ => absurd ((hoff 12 (by kernel_rfl)).symm.trans h0_) (by decide)⟩
      refine steps_cons ?_ ?_
      · rintro b a w' ⟨ha, Q_BW, Q_RB, Q_RC⟩ hb_ hon hoff
        refine ⟨_, rfl, fun K hK => ?_⟩
        have e11 : a.tmps[11]? = some (.pointer (some ⟨g, 0, none⟩)) := by rw [ha]; exact putSel_on (e := (1, 11, .pointer (some ⟨g, 0, none⟩))) 1 rfl rfl (hon 1 (by kernel_rfl)) rfl
        replace ha := Aside0.mk ha
        have BW := Aside0.mk Q_BW
        have RB := Aside0.mk (Q_RB (hoff 12 (by kernel_rfl)))
        refine value_ (w1 := w') (v := .pointer (some ⟨g, 0, none⟩)) (by rfl) rfl ?_ ?_
        · go_simp
          (try simp only [i64_w])
          try rfl
        refine hK.out _ _ ⟨(by rw [ha.out]; exact putSel_upk 2 hb_ rfl rfl rfl), Q_BW, Q_RB, fun h0_ => absurd ((hoff 12 (by kernel_rfl)).symm.trans h0_) (by decide)⟩
      refine steps_cons ?_ ?_
      · rintro b a w' ⟨ha, Q_BW, Q_RB, Q_RC⟩ hb_ hon hoff
        refine ⟨_, rfl, fun K hK => ?_⟩
        have e12 : a.tmps[12]? = some (.pointer (some ⟨g, 0, none⟩)) := by rw [ha]; exact putSel_on (e := (2, 12, .pointer (some ⟨g, 0, none⟩))) 2 rfl rfl (hon 2 (by kernel_rfl)) rfl
        replace ha := Aside0.mk ha
        have BW := Aside0.mk Q_BW
        have RB := Aside0.mk (Q_RB (hoff 12 (by kernel_rfl)))
        have hc0_ : w'.cell? ⟨g, 0, none⟩ = some (.slice (some ⟨gs, 0, none⟩) m cs) := (C0.out w' BW.out)
        refine value_ (w1 := w') (v := .slice (some ⟨gs, 0, none⟩) m cs) (by rfl) rfl ?_ ?_
        · go_simp
          (try simp only [i64_w])
          try rfl
        refine hK.out _ _ ⟨(by rw [ha.out]; exact putSel_upk 3 hb_ rfl rfl rfl), Q_BW, Q_RB, fun h0_ => absurd ((hoff 12 (by kernel_rfl)).symm.trans h0_) (by decide)⟩
      refine steps_cons ?_ ?_
      · rintro b a w' ⟨ha, Q_BW, Q_RB, Q_RC⟩ hb_ hon hoff
        refine ⟨_, rfl, fun K hK => ?_⟩
        have e0 : a.tmps[0]? = some (.pointer (some ⟨g, 0, none⟩)) := by rw [ha]; exact (putSel_off rfl).trans rfl
        replace ha := Aside0.mk ha
        have BW := Aside0.mk Q_BW
        have RB := Aside0.mk (Q_RB (hoff 12 (by kernel_rfl)))
        refine value_ (w1 := w') (v := .pointer (some ⟨g, 0, none⟩)) (by rfl) rfl ?_ ?_
        · go_simp
          (try simp only [i64_w])
          try rfl
        refine hK.out _ _ ⟨(by rw [ha.out]; exact putSel_upk 4 hb_ rfl rfl rfl), Q_BW, Q_RB, fun h0_ => absurd ((hoff 12 (by kernel_rfl)).symm.trans h0_) (by decide)⟩
      refine steps_cons ?_ ?_
      · rintro b a w' ⟨ha, Q_BW, Q_RB, Q_RC⟩ hb_ hon hoff
        refine ⟨_, rfl, fun K hK => ?_⟩
        have e14 : a.tmps[14]? = some (.pointer (some ⟨g, 0, none⟩)) := by rw [ha]; exact putSel_on (e := (4, 14, .pointer (some ⟨g, 0, none⟩))) 4 rfl rfl (hon 4 (by kernel_rfl)) rfl
        replace ha := Aside0.mk ha
        have BW := Aside0.mk Q_BW
        have RB := Aside0.mk (Q_RB (hoff 12 (by kernel_rfl)))
        refine value_ (w1 := w') (v := .pointer (some ⟨g, 0, none⟩)) (by rfl) rfl ?_ ?_
        · go_simp
          (try simp only [i64_w])
          try rfl
        refine hK.out _ _ ⟨(by rw [ha.out]; exact putSel_upk 5 hb_ rfl rfl rfl), Q_BW, Q_RB, fun h0_ => absurd ((hoff 12 (by kernel_rfl)).symm.trans h0_) (by decide)⟩
      refine steps_cons ?_ ?_
      · rintro b a w' ⟨ha, Q_BW, Q_RB, Q_RC⟩ hb_ hon hoff
        refine ⟨_, rfl, fun K hK => ?_⟩
        have e15 : a.tmps[15]? = some (.pointer (some ⟨g, 0, none⟩)) := by rw [ha]; exact putSel_on (e := (5, 15, .pointer (some ⟨g, 0, none⟩))) 5 rfl rfl (hon 5 (by kernel_rfl)) rfl
        replace ha := Aside0.mk ha
        have BW := Aside0.mk Q_BW
        have RB := Aside0.mk (Q_RB (hoff 12 (by kernel_rfl)))
        refine value_ (w1 := w') (v := .pointer (some ⟨g, 0, none⟩)) (by rfl) rfl ?_ ?_
        · go_simp
          (try simp only [i64_w])
          try rfl
        refine hK.out _ _ ⟨(by rw [ha.out]; exact putSel_upk 6 hb_ rfl rfl rfl), Q_BW, Q_RB, fun h0_ => absurd ((hoff 12 (by kernel_rfl)).symm.trans h0_) (by decide)⟩
      refine steps_cons ?_ ?_
      · rintro b a w' ⟨ha, Q_BW, Q_RB, Q_RC⟩ hb_ hon hoff
        refine ⟨_, rfl, fun K hK => ?_⟩
        have e16 : a.tmps[16]? = some (.pointer (some ⟨g, 0, none⟩)) := by rw [ha]; exact putSel_on (e := (6, 16, .pointer (some ⟨g, 0, none⟩))) 6 rfl rfl (hon 6 (by kernel_rfl)) rfl
        replace ha := Aside0.mk ha
        have BW := Aside0.mk Q_BW
        have RB := Aside0.mk (Q_RB (hoff 12 (by kernel_rfl)))
        have hc0_ : w'.cell? ⟨g, 0, none⟩ = some (.slice (some ⟨gs, 0, none⟩) m cs) := (C0.out w' BW.out)
        refine value_ (w1 := w') (v := .slice (some ⟨gs, 0, none⟩) m cs) (by rfl) rfl ?_ ?_
        · go_simp
          (try simp only [i64_w])
          try rfl
        refine hK.out _ _ ⟨(by rw [ha.out]; exact putSel_upk 7 hb_ rfl rfl rfl), Q_BW, Q_RB, fun h0_ => absurd ((hoff 12 (by kernel_rfl)).symm.trans h0_) (by decide)⟩
      refine steps_cons ?_ ?_
      · rintro b a w' ⟨ha, Q_BW, Q_RB, Q_RC⟩ hb_ hon hoff
        refine ⟨_, rfl, fun K hK => ?_⟩
        have e17 : a.tmps[17]? = some (.slice (some ⟨gs, 0, none⟩) m cs) := by rw [ha]; exact putSel_on (e := (7, 17, .slice (some ⟨gs, 0, none⟩) m cs)) 7 rfl rfl (hon 7 (by kernel_rfl)) rfl
        replace ha := Aside0.mk ha
        have BW := Aside0.mk Q_BW
        have RB := Aside0.mk (Q_RB (hoff 12 (by kernel_rfl)))
        refine value_ (w1 := w') (v := .int .i64 (m : Int)) (by rfl) rfl ?_ ?_
        · go_simp
          (try simp only [i64_w])
          try rfl
        refine hK.out _ _ ⟨(by rw [ha.out]; exact putSel_upk 8 hb_ rfl rfl rfl), Q_BW, Q_RB, fun h0_ => absurd ((hoff 12 (by kernel_rfl)).symm.trans h0_) (by decide)⟩
      refine steps_cons ?_ ?_
      · rintro b a w' ⟨ha, Q_BW, Q_RB, Q_RC⟩ hb_ hon hoff
        refine ⟨_, rfl, fun K hK => ?_⟩
        have e18 : a.tmps[18]? = some (.int .i64 (m : Int)) := by rw [ha]; exact putSel_on (e := (8, 18, .int .i64 (m : Int))) 8 rfl rfl (hon 8 (by kernel_rfl)) rfl
        replace ha := Aside0.mk ha
        have BW := Aside0.mk Q_BW
        have RB := Aside0.mk (Q_RB (hoff 12 (by kernel_rfl)))
        refine value_ (w1 := w') (v := .int .i64 (j : Int)) (by rfl) rfl ?_ ?_
        · go_simp
          (try simp only [i64_w])
          try rfl
        refine hK.out _ _ ⟨(by rw [ha.out]; exact putSel_upk 9 hb_ rfl rfl rfl), Q_BW, Q_RB, fun h0_ => absurd ((hoff 12 (by kernel_rfl)).symm.trans h0_) (by decide)⟩
      refine steps_cons ?_ ?_
      · rintro b a w' ⟨ha, Q_BW, Q_RB, Q_RC⟩ hb_ hon hoff
        refine ⟨_, rfl, fun K hK => ?_⟩
        have e13 : a.tmps[13]? = some (.slice (some ⟨gs, 0, none⟩) m cs) := by rw [ha]; exact putSel_on (e := (3, 13, .slice (some ⟨gs, 0, none⟩) m cs)) 3 rfl rfl (hon 3 (by kernel_rfl)) rfl
        have e19 : a.tmps[19]? = some (.int .i64 (j : Int)) := by rw [ha]; exact putSel_on (e := (9, 19, .int .i64 (j : Int))) 9 rfl rfl (hon 9 (by kernel_rfl)) rfl
        replace ha := Aside0.mk ha
        have BW := Aside0.mk Q_BW
        have RB := Aside0.mk (Q_RB (hoff 12 (by kernel_rfl)))
        refine value_ (w1 := w') (v := .pointer (some ⟨gs, j * 2, none⟩)) (by rfl) rfl ?_ ?_
        · go_simp
          (try simp only [i64_w])
          try rfl
        refine hK.out _ _ ⟨(by rw [ha.out]; exact putSel_upk 10 hb_ rfl rfl rfl), Q_BW, Q_RB, fun h0_ => absurd ((hoff 12 (by kernel_rfl)).symm.trans h0_) (by decide)⟩
      refine steps_cons ?_ ?_
      · rintro b a w' ⟨ha, Q_BW, Q_RB, Q_RC⟩ hb_ hon hoff
        refine ⟨_, rfl, fun K hK => ?_⟩
        have e20 : a.tmps[20]? = some (.pointer (some ⟨gs, j * 2, none⟩)) := by rw [ha]; exact putSel_on (e := (10, 20, .pointer (some ⟨gs, j * 2, none⟩))) 10 rfl rfl (hon 10 (by kernel_rfl)) rfl
        replace ha := Aside0.mk ha
        have BW := Aside0.mk Q_BW
        have RB := Aside0.mk (Q_RB (hoff 12 (by kernel_rfl)))
        have hc0_ : w'.cell? ⟨gs, j * 2, none⟩ = some (.int .i64 y.1) := (X0.out w' BW.out)
        have hc1_ : w'.cell? ⟨gs, j * 2 + 1, none⟩ = some (.string y.2) := (X1.out w' BW.out)
        refine value_ (w1 := w') (v := .agg #[.int .i64 y.1, .string y.2]) (by rfl) rfl ?_ ?_
        · go_simp
          (try simp only [i64_w])
          try rfl
        refine hK.out _ _ ⟨(by rw [ha.out]; exact putSel_upk 11 hb_ rfl rfl rfl), Q_BW, Q_RB, fun h0_ => absurd ((hoff 12 (by kernel_rfl)).symm.trans h0_) (by decide)⟩
      refine steps_cons ?_ ?_
      · rintro b a w' ⟨ha, Q_BW, Q_RB, Q_RC⟩ hb_ hon hoff
        refine ⟨_, rfl, fun K hK => ?_⟩
        have e2 : a.tmps[2]? = some (.pointer (some ⟨W.heap.size, 0, none⟩)) := by rw [ha]; exact (putSel_off rfl).trans rfl
        have e21 : a.tmps[21]? = some (.agg #[.int .i64 y.1, .string y.2]) := by rw [ha]; exact putSel_on (e := (11, 21, .agg #[.int .i64 y.1, .string y.2])) 11 rfl rfl (hon 11 (by kernel_rfl)) rfl
        replace ha := Aside0.mk ha
        have BW := Aside0.mk Q_BW
        have RB := Aside0.mk (Q_RB hb_)
        have hf0_ : w'.frozen? ⟨W.heap.size, 0, none⟩ = false := blk_frozen RB.out 0
        have hf1_ : w'.frozen? ⟨W.heap.size, 1, none⟩ = false := blk_frozen RB.out 1
        have hc0_ : w'.cell? ⟨W.heap.size, 0, none⟩ = some (.int .i64 0) := (blk_cell RB.out 0).trans rfl
        have hc1_ : w'.cell? ⟨W.heap.size, 1, none⟩ = some (.string ⟨#[]⟩) := (blk_cell RB.out 1).trans rfl
        refine skip_ (w1 := (w'.setCell ⟨W.heap.size, 0, none⟩ (.int .i64 y.1)).setCell ⟨W.heap.size, 1, none⟩ (.string y.2)) (by rfl) rfl ?_ ?_
        · go_simp
        refine hK.out _ _ ⟨(by rw [ha.out]; exact putSel_none (v := undef) rfl), (below_set (below_set BW.out (Nat.le_refl _)) (Nat.le_refl _)), fun h0_ => absurd ((up_self b 12).symm.trans h0_) (by decide), fun _ => (blk_put (blk_put RB.out 0 _ rfl) 1 _ rfl)⟩
      exact steps_nil
    rintro b a w3 hall ⟨ha, Q_BW, Q_RB, Q_RC⟩
    have hb0_ := hall 0 (by kernel_rfl)
    have hb1_ := hall 1 (by kernel_rfl)
    have hb2_ := hall 2 (by kernel_rfl)
    have hb3_ := hall 3 (by kernel_rfl)
    have hb4_ := hall 4 (by kernel_rfl)
    have hb5_ := hall 5 (by kernel_rfl)
    have hb6_ := hall 6 (by kernel_rfl)
    have hb7_ := hall 7 (by kernel_rfl)
    have hb8_ := hall 8 (by kernel_rfl)
    have hb9_ := hall 9 (by kernel_rfl)
    have hb10_ := hall 10 (by kernel_rfl)
    have hb11_ := hall 11 (by kernel_rfl)
    have hb12_ := hall 12 (by kernel_rfl)
    subst ha
    simp only [putSel, hb0_, hb1_, hb2_, hb3_, hb4_, hb5_, hb6_, hb7_, hb8_, hb9_, hb10_, hb11_, hb12_, if_true, Act.put, List.setIfInBounds_toArray, List.set_cons_zero, List.set_cons_succ]
    have BW := Aside0.mk Q_BW
    clear Q_BW
    clear Q_RB
    have RC := Aside0.mk (Q_RC hb12_)
    clear Q_RC
    clear hall hb0_ hb1_ hb2_ hb3_ hb4_ hb5_ hb6_ hb7_ hb8_ hb9_ hb10_ hb11_ hb12_
    have RC' := RC.out
    have BW' := Go.Lib.hid BW.out
    clear BW RC HT_ HW_ hHeld b hBW0 hRB0 C0 X0 X1
    go_wp2_with fail
    refine bodyPost_ret (results_cell_row rfl _ _ W.heap.size 41 _ (0, 0) _ rfl RC' rfl rfl rfl) rfl ?_
    exact ⟨rfl, BW'.out⟩
def pop.T0 : Bool × List (List Nat × List Nat) := (true, [([], []), ([], []), ([1], [1]), ([2], [2]), ([3], [3]), ([], []), ([5], [5]), ([6], [6]), ([7], [7]), ([8], [8]), ([9], [9]), ([4, 10], [4, 10]), ([0, 0, 1, 2, 3, 4, 5, 6, 7, 8, 9, 10, 11], [0]), ([12, 0, 1, 2, 3, 4, 5, 6, 7, 8, 9, 10, 11], [12]), ([13, 11, 0, 1, 2, 3, 4, 5, 6, 7, 8, 9, 10, 11], [11, 13])])
def pop.B0 : List Nat := [0, 0, 2, 6, 14, 0, 32, 96, 224, 480, 992, 2046, 4095, 8191, 16383]
theorem pop.tab0 : rtab .any (opsOf Try.f16 0) = pop.T0 := by kernel_rfl
theorem pop.bits0 : waitsOk pop.T0.2 pop.B0 = true := by kernel_rfl
set_option maxRecDepth 100000 in
theorem pop_calls {p : Pm} {g : Nat} (hm : Mkr p g) {As Ao : Option Addr} {cs co : Nat} {l : List Fr} {y : Fr} {out : List S27} {W : World} (h : Two p As cs (l ++ [y]) Ao co out W) (hl : (l ++ [y]).length < 1000000) :
    Calls Try.prog 16 #[.pointer (some ⟨g, 0, none⟩)] W fun e w' => e = .returned (.tuple #[]) ∧ Two p As cs l Ao co out w' := by
  obtain ⟨gs, rfl, _, _⟩ := h.atS (snoc_at l y)
  obtain ⟨m, hm0⟩ : ∃ m, m = (l ++ [y]).length := ⟨_, rfl⟩
  obtain ⟨j, hj0⟩ : ∃ j, j = l.length := ⟨_, rfl⟩
  have hmj : (m : Int) - 1 = (j : Int) := by rw [hm0, hj0]; simp
  have hj1 : (j : Int) < (m : Int) := by omega
  rw [← hm0] at hl
  have hw : IntKind.i64.wrap ((m : Int) - 1) = (j : Int) := by rw [IntKind.wrap_i64]; omega
  have hp0 : (0 : Int) ≤ (j : Int) := by omega
  have hcap : m ≤ cs := by rw [hm0]; exact own_cap h.rS
  have hcap2 : (j : Int) ≤ (cs : Int) := by omega
  have H0 := Go.Lib.hid h.drew
  have HM0 := Go.Lib.hid hm0
  have HJ0 := Go.Lib.hid hj0
  have hcut := cut_to (P := Try.prog) 33 41 .i64 Try.underlying33 info41'.choose_spec (some ⟨gs, 0, none⟩) m cs (j : Int) hp0 (by omega) hcap
  rw [Int.toNat_natCast] at hcut
  clear h hm0 hj0 hl hmj hcap
  go_enter Try.func16, Try.ntmps16
  go_wp2_with fail
  refine start_ (n := 15) (S := fun w' => True) (ds := []) #[false, false, false, false, false, false, false, false, false, false, false, false, false, false, false] (by kernel_rfl) rfl rfl trivial (fun hHeld => ?_)
  refine with_tabW pop.tab0 pop.bits0 (fun HT_ HW_ => ?_)
  refine inv_at [0, 1, 2, 3, 4, 5, 6, 7, 8, 9, 10, 11, 12, 13, 14] (fun a0_ b a w' => a = putSel a0_ b [(0, 2, .pointer (some ⟨g, 0, none⟩)), (1, 3, .pointer (some ⟨g, 0, none⟩)), (2, 4, .pointer (some ⟨g, 0, none⟩)), (3, 5, .pointer (some ⟨g, 0, none⟩)), (4, 6, .slice (some ⟨gs, 0, none⟩) m cs), (5, 7, .pointer (some ⟨g, 0, none⟩)), (6, 8, .pointer (some ⟨g, 0, none⟩)), (7, 9, .pointer (some ⟨g, 0, none⟩)), (8, 10, .slice (some ⟨gs, 0, none⟩) m cs), (9, 11, .int .i64 (m : Int)), (10, 12, .int .i64 (j : Int)), (11, 13, .slice (some ⟨gs, 0, none⟩) j cs), (12, 14, .pointer (some ⟨g, 0, none⟩)), (13, 15, .pointer (some ⟨g, 0, none⟩))] ∧ (b 14 = false → Two p (some ⟨gs, 0, none⟩) cs (l ++ [y]) Ao co out w') ∧ (b 14 = true → Two p (some ⟨gs, 0, none⟩) cs l Ao co out w')) HT_.out HW_.out (by kernel_rfl) (by kernel_rfl) ?_ ?_ ?_
  · exact ⟨by simp only [putSel, Bool.false_eq_true, if_false], fun _ => H0.out, fun h_ => absurd h_ (by decide)⟩
  · skip
    refine steps_cons ?_ ?_
    · rintro b a w' ⟨ha, Q_TW, Q_TZ⟩ hb_ hon hoff
      refine ⟨_, rfl, fun K hK => ?_⟩
      have e0 : a.tmps[0]? = some (.pointer (some ⟨g, 0, none⟩)) := by rw [ha]; exact (putSel_off rfl).trans rfl
      replace ha := Aside0.mk ha
      have TW := Aside0.mk (Q_TW (hoff 14 (by kernel_rfl)))
      refine value_ (w1 := w') (v := .pointer (some ⟨g, 0, none⟩)) (by rfl) rfl ?_ ?_
      · go_simp
        (try simp only [i64_w])
        try rfl
      refine hK.out _ _ ⟨(by rw [ha.out]; exact putSel_upk 0 hb_ rfl rfl rfl), Q_TW, fun h0_ => absurd ((hoff 14 (by kernel_rfl)).symm.trans h0_) (by decide)⟩
    refine steps_cons ?_ ?_
    · rintro b a w' ⟨ha, Q_TW, Q_TZ⟩ hb_ hon hoff
      refine ⟨_, rfl, fun K hK => ?_⟩
      have e0 : a.tmps[0]? = some (.pointer (some ⟨g, 0, none⟩)) := by rw [ha]; exact (putSel_off rfl).trans rfl
      replace ha := Aside0.mk ha
      have TW := Aside0.mk (Q_TW (hoff 14 (by kernel_rfl)))
      refine value_ (w1 := w') (v := .pointer (some ⟨g, 0, none⟩)) (by rfl) rfl ?_ ?_
      · go_simp
        (try simp only [i64_w])
        try rfl
      refine hK.out _ _ ⟨(by rw [ha.out]; exact putSel_upk 1 hb_ rfl rfl rfl), Q_TW, fun h0_ => absurd ((hoff 14 (by kernel_rfl)).symm.trans h0_) (by decide)⟩
    refine steps_cons ?_ ?_
    · rintro b a w' ⟨ha, Q_TW, Q_TZ⟩ hb_ hon hoff
      refine ⟨_, rfl, fun K hK => ?_⟩
      have e3 : a.tmps[3]? = some (.pointer (some ⟨g, 0, none⟩)) := by rw [ha]; exact putSel_on (e := (1, 3, .pointer (some ⟨g, 0, none⟩))) 1 rfl rfl (hon 1 (by kernel_rfl)) rfl
      replace ha := Aside0.mk ha
      have TW := Aside0.mk (Q_TW (hoff 14 (by kernel_rfl)))
      refine value_ (w1 := w') (v := .pointer (some ⟨g, 0, none⟩)) (by rfl) rfl ?_ ?_
      · go_simp
        (try simp only [i64_w])
        try rfl
      refine hK.out _ _ ⟨(by rw [ha.out]; exact putSel_upk 2 hb_ rfl rfl rfl), Q_TW, fun h0_ => absurd ((hoff 14 (by kernel_rfl)).symm.trans h0_) (by decide)⟩
    refine steps_cons ?_ ?_
    · rintro b a w' ⟨ha, Q_TW, Q_TZ⟩ hb_ hon hoff
      refine ⟨_, rfl, fun K hK => ?_⟩
      have e4 : a.tmps[4]? = some (.pointer (some ⟨g, 0, none⟩)) := by rw [ha]; exact putSel_on (e := (2, 4, .pointer (some ⟨g, 0, none⟩))) 2 rfl rfl (hon 2 (by kernel_rfl)) rfl
      replace ha := Aside0.mk ha
      have TW := Aside0.mk (Q_TW (hoff 14 (by kernel_rfl)))
      refine value_ (w1 := w') (v := .pointer (some ⟨g, 0, none⟩)) (by rfl) rfl ?_ ?_
      · go_simp
        (try simp only [i64_w])
        try rfl
      refine hK.out _ _ ⟨(by rw [ha.out]; exact putSel_upk 3 hb_ rfl rfl rfl), Q_TW, fun h0_ => absurd ((hoff 14 (by kernel_rfl)).symm.trans h0_) (by decide)⟩
    refine steps_cons ?_ ?_
    · rintro b a w' ⟨ha, Q_TW, Q_TZ⟩ hb_ hon hoff
      refine ⟨_, rfl, fun K hK => ?_⟩
      have e5 : a.tmps[5]? = some (.pointer (some ⟨g, 0, none⟩)) := by rw [ha]; exact putSel_on (e := (3, 5, .pointer (some ⟨g, 0, none⟩))) 3 rfl rfl (hon 3 (by kernel_rfl)) rfl
      replace ha := Aside0.mk ha
      have TW := Aside0.mk (Q_TW (hoff 14 (by kernel_rfl)))
      have hc0_ : w'.cell? ⟨g, 0, none⟩ = some (.slice (some ⟨gs, 0, none⟩) m cs) := (by have h_ := TW.out.cS; rw [hm.hs, ← HM0.out] at h_; exact h_)
      refine value_ (w1 := w') (v := .slice (some ⟨gs, 0, none⟩) m cs) (by rfl) rfl ?_ ?_
      · go_simp
        (try simp only [i64_w])
        try rfl
      refine hK.out _ _ ⟨(by rw [ha.out]; exact putSel_upk 4 hb_ rfl rfl rfl), Q_TW, fun h0_ => absurd ((hoff 14 (by kernel_rfl)).symm.trans h0_) (by decide)⟩
    refine steps_cons ?_ ?_
    · rintro b a w' ⟨ha, Q_TW, Q_TZ⟩ hb_ hon hoff
      refine ⟨_, rfl, fun K hK => ?_⟩
      have e0 : a.tmps[0]? = some (.pointer (some ⟨g, 0, none⟩)) := by rw [ha]; exact (putSel_off rfl).trans rfl
      replace ha := Aside0.mk ha
      have TW := Aside0.mk (Q_TW (hoff 14 (by kernel_rfl)))
      refine value_ (w1 := w') (v := .pointer (some ⟨g, 0, none⟩)) (by rfl) rfl ?_ ?_
      · go_simp
        (try simp only [i64_w])
        try rfl
      refine hK.out _ _ ⟨(by rw [ha.out]; exact putSel_upk 5 hb_ rfl rfl rfl), Q_TW, fun h0_ => absurd ((hoff 14 (by kernel_rfl)).symm.trans h0_) (by decide)⟩
    refine steps_cons ?_ ?_
    · rintro b a w' ⟨ha, Q_TW, Q_TZ⟩ hb_ hon hoff
      refine ⟨_, rfl, fun K hK => ?_⟩
      have e7 : a.tmps[7]? = some (.pointer (some ⟨g, 0, none⟩)) := by rw [ha]; exact putSel_on (e := (5, 7, .pointer (some ⟨g, 0, none⟩))) 5 rfl rfl (hon 5 (by kernel_rfl)) rfl
      replace ha := Aside0.mk ha
      have TW := Aside0.mk (Q_TW (hoff 14 (by kernel_rfl)))
      refine value_ (w1 := w') (v := .pointer (some ⟨g, 0, none⟩)) (by rfl) rfl ?_ ?_
      · go_simp
        (try simp only [i64_w])
        try rfl
      refine hK.out _ _ ⟨(by rw [ha.out]; exact putSel_upk 6 hb_ rfl rfl rfl), Q_TW, fun h0_ => absurd ((hoff 14 (by kernel_rfl)).symm.trans h0_) (by decide)⟩
    refine steps_cons ?_ ?_
    · rintro b a w' ⟨ha, Q_TW, Q_TZ⟩ hb_ hon hoff
      refine ⟨_, rfl, fun K hK => ?_⟩
      have e8 : a.tmps[8]? = some (.pointer (some ⟨g, 0, none⟩)) := by rw [ha]; exact putSel_on (e := (6, 8, .pointer (some ⟨g, 0, none⟩))) 6 rfl rfl (hon 6 (by kernel_rfl)) rfl
      replace ha := Aside0.mk ha
      have TW := Aside0.mk (Q_TW (hoff 14 (by kernel_rfl)))
      refine value_ (w1 := w') (v := .pointer (some ⟨g, 0, none⟩)) (by rfl) rfl ?_ ?_
      · go_simp
        (try simp only [i64_w])
        try rfl
      refine hK.out _ _ ⟨(by rw [ha.out]; exact putSel_upk 7 hb_ rfl rfl rfl), Q_TW, fun h0_ => absurd ((hoff 14 (by kernel_rfl)).symm.trans h0_) (by decide)⟩
    refine steps_cons ?_ ?_
    · rintro b a w' ⟨ha, Q_TW, Q_TZ⟩ hb_ hon hoff
      refine ⟨_, rfl, fun K hK => ?_⟩
      have e9 : a.tmps[9]? = some (.pointer (some ⟨g, 0, none⟩)) := by rw [ha]; exact putSel_on (e := (7, 9, .pointer (some ⟨g, 0, none⟩))) 7 rfl rfl (hon 7 (by kernel_rfl)) rfl
      replace ha := Aside0.mk ha
      have TW := Aside0.mk (Q_TW (hoff 14 (by kernel_rfl)))
      have hc0_ : w'.cell? ⟨g, 0, none⟩ = some (.slice (some ⟨gs, 0, none⟩) m cs) := (by have h_ := TW.out.cS; rw [hm.hs, ← HM0.out] at h_; exact h_)
      refine value_ (w1 := w') (v := .slice (some ⟨gs, 0, none⟩) m cs) (by rfl) rfl ?_ ?_
      · go_simp
        (try simp only [i64_w])
        try rfl
      refine hK.out _ _ ⟨(by rw [ha.out]; exact putSel_upk 8 hb_ rfl rfl rfl), Q_TW, fun h0_ => absurd ((hoff 14 (by kernel_rfl)).symm.trans h0_) (by decide)⟩
    refine steps_cons ?_ ?_
    · rintro b a w' ⟨ha, Q_TW, Q_TZ⟩ hb_ hon hoff
      refine ⟨_, rfl, fun K hK => ?_⟩
      have e10 : a.tmps[10]? = some (.slice (some ⟨gs, 0, none⟩) m cs) := by rw [ha]; exact putSel_on (e := (8, 10, .slice (some ⟨gs, 0, none⟩) m cs)) 8 rfl rfl (hon 8 (by kernel_rfl)) rfl
      replace ha := Aside0.mk ha
      have TW := Aside0.mk (Q_TW (hoff 14 (by kernel_rfl)))
      refine value_ (w1 := w') (v := .int .i64 (m : Int)) (by rfl) rfl ?_ ?_
      · go_simp
        (try simp only [i64_w])
        try rfl
      refine hK.out _ _ ⟨(by rw [ha.out]; exact putSel_upk 9 hb_ rfl rfl rfl), Q_TW, fun h0_ => absurd ((hoff 14 (by kernel_rfl)).symm.trans h0_) (by decide)⟩
    refine steps_cons ?_ ?_
    · rintro b a w' ⟨ha, Q_TW, Q_TZ⟩ hb_ hon hoff
      refine ⟨_, rfl, fun K hK => ?_⟩
      have e11 : a.tmps[11]? = some (.int .i64 (m : Int)) := by rw [ha]; exact putSel_on (e := (9, 11, .int .i64 (m : Int))) 9 rfl rfl (hon 9 (by kernel_rfl)) rfl
      replace ha := Aside0.mk ha
      have TW := Aside0.mk (Q_TW (hoff 14 (by kernel_rfl)))
      refine value_ (w1 := w') (v := .int .i64 (j : Int)) (by rfl) rfl ?_ ?_
      · go_simp
        (try simp only [i64_w])
        try rfl
      refine hK.out _ _ ⟨(by rw [ha.out]; exact putSel_upk 10 hb_ rfl rfl rfl), Q_TW, fun h0_ => absurd ((hoff 14 (by kernel_rfl)).symm.trans h0_) (by decide)⟩
    refine steps_cons ?_ ?_
    · rintro b a w' ⟨ha, Q_TW, Q_TZ⟩ hb_ hon hoff
      refine ⟨_, rfl, fun K hK => ?_⟩
      have e6 : a.tmps[6]? = some (.slice (some ⟨gs, 0, none⟩) m cs) := by rw [ha]; exact putSel_on (e := (4, 6, .slice (some ⟨gs, 0, none⟩) m cs)) 4 rfl rfl (hon 4 (by kernel_rfl)) rfl
      have e12 : a.tmps[12]? = some (.int .i64 (j : Int)) := by rw [ha]; exact putSel_on (e := (10, 12, .int .i64 (j : Int))) 10 rfl rfl (hon 10 (by kernel_rfl)) rfl
      replace ha := Aside0.mk ha
      have TW := Aside0.mk (Q_TW (hoff 14 (by kernel_rfl)))
      refine value_ (w1 := w') (v := .slice (some ⟨gs, 0, none⟩) j cs) (by rfl) rfl ?_ ?_
      · go_simp
        (try simp only [i64_w])
        try rfl
      refine hK.out _ _ ⟨(by rw [ha.out]; exact putSel_upk 11 hb_ rfl rfl rfl), Q_TW, fun h0_ => absurd ((hoff 14 (by kernel_rfl)).symm.trans h0_) (by decide)⟩
    refine steps_cons ?_ ?_
    · rintro b a w' ⟨ha, Q_TW, Q_TZ⟩ hb_ hon hoff
      refine ⟨_, rfl, fun K hK => ?_⟩
      have e2 : a.tmps[2]? = some (.pointer (some ⟨g, 0, none⟩)) := by rw [ha]; exact putSel_on (e := (0, 2, .pointer (some ⟨g, 0, none⟩))) 0 rfl rfl (hon 0 (by kernel_rfl)) rfl
      replace ha := Aside0.mk ha
      have TW := Aside0.mk (Q_TW (hoff 14 (by kernel_rfl)))
      refine value_ (w1 := w') (v := .pointer (some ⟨g, 0, none⟩)) (by rfl) rfl ?_ ?_
      · go_simp
        (try simp only [i64_w])
        try rfl
      refine hK.out _ _ ⟨(by rw [ha.out]; exact putSel_upk 12 hb_ rfl rfl rfl), Q_TW, fun h0_ => absurd ((hoff 14 (by kernel_rfl)).symm.trans h0_) (by decide)⟩
    refine steps_cons ?_ ?_
    · rintro b a w' ⟨ha, Q_TW, Q_TZ⟩ hb_ hon hoff
      refine ⟨_, rfl, fun K hK => ?_⟩
      have e14 : a.tmps[14]? = some (.pointer (some ⟨g, 0, none⟩)) := by rw [ha]; exact putSel_on (e := (12, 14, .pointer (some ⟨g, 0, none⟩))) 12 rfl rfl (hon 12 (by kernel_rfl)) rfl
      replace ha := Aside0.mk ha
      have TW := Aside0.mk (Q_TW (hoff 14 (by kernel_rfl)))
      refine value_ (w1 := w') (v := .pointer (some ⟨g, 0, none⟩)) (by rfl) rfl ?_ ?_
      · go_simp
        (try simp only [i64_w])
        try rfl
      refine hK.out _ _ ⟨(by rw [ha.out]; exact putSel_upk 13 hb_ rfl rfl rfl), Q_TW, fun h0_ => absurd ((hoff 14 (by kernel_rfl)).symm.trans h0_) (by decide)⟩
    refine steps_cons ?_ ?_
    · rintro b a w' ⟨ha, Q_TW, Q_TZ⟩ hb_ hon hoff
      refine ⟨_, rfl, fun K hK => ?_⟩
      have e15 : a.tmps[15]? = some (.pointer (some ⟨g, 0, none⟩)) := by rw [ha]; exact putSel_on (e := (13, 15, .pointer (some ⟨g, 0, none⟩))) 13 rfl rfl (hon 13 (by kernel_rfl)) rfl
      have e13 : a.tmps[13]? = some (.slice (some ⟨gs, 0, none⟩) j cs) := by rw [ha]; exact putSel_on (e := (11, 13, .slice (some ⟨gs, 0, none⟩) j cs)) 11 rfl rfl (hon 11 (by kernel_rfl)) rfl
      replace ha := Aside0.mk ha
      have TW := Aside0.mk (Q_TW hb_)
      have hf_ : w'.frozen? ⟨g, 0, none⟩ = false := by have h_ := TW.out.fS; rw [hm.hs] at h_; exact h_
      have hc_ : w'.cell? ⟨g, 0, none⟩ = some (.slice (some ⟨gs, 0, none⟩) m cs) := by have h_ := TW.out.cS; rw [hm.hs, ← HM0.out] at h_; exact h_
      refine skip_ (w1 := w'.setCell ⟨g, 0, none⟩ (.slice (some ⟨gs, 0, none⟩) j cs)) (by rfl) rfl ?_ ?_
      · go_simp
      refine hK.out _ _ ⟨(by rw [ha.out]; exact putSel_none (v := undef) rfl), fun h0_ => absurd ((up_self b 14).symm.trans h0_) (by decide), fun _ => (by have h_ := TW.out.pop; rw [hm.hs, ← HJ0.out] at h_; exact h_)⟩
    exact steps_nil
  rintro b a w3 hall ⟨ha, Q_TW, Q_TZ⟩
  have hb0_ := hall 0 (by kernel_rfl)
  have hb1_ := hall 1 (by kernel_rfl)
  have hb2_ := hall 2 (by kernel_rfl)
  have hb3_ := hall 3 (by kernel_rfl)
  have hb4_ := hall 4 (by kernel_rfl)
  have hb5_ := hall 5 (by kernel_rfl)
  have hb6_ := hall 6 (by kernel_rfl)
  have hb7_ := hall 7 (by kernel_rfl)
  have hb8_ := hall 8 (by kernel_rfl)
  have hb9_ := hall 9 (by kernel_rfl)
  have hb10_ := hall 10 (by kernel_rfl)
  have hb11_ := hall 11 (by kernel_rfl)
  have hb12_ := hall 12 (by kernel_rfl)
  have hb13_ := hall 13 (by kernel_rfl)
  have hb14_ := hall 14 (by kernel_rfl)
  subst ha
  simp only [putSel, hb0_, hb1_, hb2_, hb3_, hb4_, hb5_, hb6_, hb7_, hb8_, hb9_, hb10_, hb11_, hb12_, hb13_, hb14_, if_true, Act.put, List.setIfInBounds_toArray, List.set_cons_zero, List.set_cons_succ]
  clear Q_TW
  have TZ := Aside0.mk (Q_TZ hb14_)
  clear Q_TZ
  clear hall hb0_ hb1_ hb2_ hb3_ hb4_ hb5_ hb6_ hb7_ hb8_ hb9_ hb10_ hb11_ hb12_ hb13_ hb14_
  have TZ' := Go.Lib.hid TZ.out
  clear TZ HT_ HW_ hHeld b H0
  go_wp2_with fail
  refine bodyPost_end (results_none rfl _ _ _) rfl ?_
  exact ⟨rfl, TZ'.out⟩
end Go.Proofs.Ytchbjjefjmcakaa.Lb
