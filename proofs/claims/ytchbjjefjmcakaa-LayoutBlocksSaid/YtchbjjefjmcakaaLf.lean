/- The marker's line. -/
import Derived.Test.YtchbjjefjmcakaaLe
namespace Go.Proofs.Ytchbjjefjmcakaa.Lb
open Go.RowKit Go.Proofs.Ytchbjjefjmcakaa.PLayoutBlocks Go.Proofs.YtchbjjefjmcakaaW.PrintWords Go.Proofs.YtchbjjefjmcakaaW.PrintLast Go.Proofs.YtchbjjefjmcakaaW.PrintMore
set_option linter.unusedVariables false
set_option linter.unusedSimpArgs false
/-- What line leaves. -/
def lineX (t : S27) (x : List Fr × List S27) : List Fr × List S27 := if (tp x.1.reverse).1 = t.f4 then (x.1, x.2 ++ [vt 8 t]) else x
set_option maxRecDepth 100000 in
theorem line_calls {p : Pm} {g : Nat} (hm : Mkr p g) (t : S27) (ht : 1 ≤ t.f4) {st : List Fr} {out : List S27} {W : World} (h : TwoE p st out W) (hl : out.length + st.length + 1 < 1000000) :
    Calls Try.prog 13 #[.pointer (some ⟨g, 0, none⟩), tV t] W fun e w' => e = .returned (.tuple #[]) ∧ TwoR p (lineX t (lineR t st.reverse out)) w' := by
  have HM := Go.Lib.hid hm
  have F0 := field0
  have H0 := Go.Lib.hid h
  have HI := Go.Lib.hid (In.start (t := t) h)
  have HL := Go.Lib.hid hl
  have HT1 := Go.Lib.hid ht
  clear h hl hm ht
  go_enter Try.func13, Try.ntmps13
  go_wp2_with fail
  go_loopg [] st.length (fun k wr => ∃ (s : List Fr) (o : List S27), Hid (s.length = k) ∧ Hid (In p W t s o wr) ∧ Hid (lineR t s.reverse o = lineR t st.reverse out) ∧ Hid (o.length + s.length + 1 < 1000000))
  case atStart => exact ⟨st, out, Go.Lib.hid rfl, HI, Go.Lib.hid rfl, HL⟩
  case round =>
    clear HI
    obtain ⟨s, o, hk, hI, hS, hL⟩ := hrel
    obtain ⟨y, hy⟩ : ∃ y, y = tp s := ⟨_, rfl⟩
    have HT := Go.Lib.hid (show ∀ w', In p W t s o w' → Calls Try.prog 15 #[.pointer (some ⟨g, 0, none⟩)] w' fun e w2 => e = .returned (.agg #[.int .i64 y.1, .string y.2]) ∧ Below w'.heap.size w' w2 from fun w' h => by
      rw [hy]; exact topE HM.out.more h (by have := hL.out; omega))
    have HY := Go.Lib.hid hy
    clear hy
    by_cases hc : t.f4 < y.1
    · have hc' : decide (t.f4 < y.1) = true := decide_eq_true hc
      have hc'' : decide (y.1 > t.f4) = true := decide_eq_true hc
      have HC := Go.Lib.hid hc
      clear hc
      have HII := hI
      go_wp2_with fail
      go_region_held3 (fun w' => w'.cell? ⟨W.heap.size, 4, none⟩ = some (.int .i64 t.f4) ∧ Hid (In p W t s o w')) (first | exact ⟨hNew.out.box.c4, hNew⟩ | exact ⟨(HII.out.up (below_drew1 (Below.refl _ _))).box.c4, Go.Lib.hid (HII.out.up (below_drew1 (Below.refl _ _)))⟩) (first
        | (go_at_call 15; refine (HT.out _ (‹_ ∧ Hid (In p W t s o _)›).2.out).mono ?_; rintro e wn ⟨rfl, hbn⟩; have hNew := Go.Lib.hid ((‹_ ∧ Hid (In p W t s o _)›).2.out.up hbn); clear hbn))
      have ⟨b0, b1, b2, b3, b4⟩ := hNew.out.box
      have HP := Go.Lib.hid (putE HM.out.more 7 t hNew.out (by have := hL.out; omega))
      have hsn := Go.Lib.hid (show ∃ l, s = l ++ [y] from by
        rcases snoc_cases s with h | ⟨l, z, h⟩
        · have h1 := HY.out
          rw [h, tp_nil] at h1
          have h2 := HC.out
          rw [h1] at h2
          have h3 : t.f4 < 0 := h2
          have := HT1.out
          omega
        · have h1 := HY.out
          rw [h, tp_snoc] at h1
          exact ⟨l, by rw [h, h1]⟩)
      rename_i hHeldX
      clear hHeldX hI HII HT
      go_wp2_with fail
      refine HP.out.mono ?_
      rintro e w2 ⟨rfl, hI2⟩
      obtain ⟨l, hl⟩ := hsn.out
      have hI2' : In p W t (l ++ [y]) (o ++ [vt 7 t]) w2 := by rw [← hl]; exact hI2
      have hlen : s.length = l.length + 1 := by rw [hl]; simp
      have HQ := Go.Lib.hid (popE HM.out.more hI2' (by rw [← hl]; have := hL.out; omega))
      have hn := Go.Lib.hid (show lineR t l.reverse (o ++ [vt 7 t]) = lineR t st.reverse out by
        rw [← hS.out, hl, List.reverse_append]
        show _ = lineR t (y :: l.reverse) o
        rw [lineR, if_pos HC.out])
      have hL2 := Go.Lib.hid (show (o ++ [vt 7 t]).length + l.length + 1 < 1000000 by have := hL.out; rw [List.length_append, List.length_singleton]; omega)
      have HK := Go.Lib.hid (show l.length < gk by have := hk.out; omega)
      clear HP hNew hI2 hI2' b0 b1 b2 b3 b4 hlen hl hsn
      go_wp2_with fail
      refine HQ.out.mono ?_
      rintro e w3 ⟨rfl, hI3⟩
      have HI3 := Go.Lib.hid hI3
      clear HQ hI3
      go_wp2_with fail
      go_roundg l.length
      case measure => exact HK.out
      case rel => exact ⟨l, o ++ [vt 7 t], Go.Lib.hid rfl, HI3, hn, hL2⟩
    · have hc' : decide (t.f4 < y.1) = false := decide_eq_false hc
      have hc'' : decide (y.1 > t.f4) = false := decide_eq_false hc
      have hn := Go.Lib.hid (show (s.reverse, o) = lineR t st.reverse out by
        rw [← hS.out]
        rcases snoc_cases s with h | ⟨l, z, h⟩
        · rw [h]; rfl
        · have h1 := HY.out
          rw [h, tp_snoc] at h1
          rw [h, List.reverse_append]
          show _ = lineR t (z :: l.reverse) o
          rw [lineR, if_neg (by rw [← h1]; exact hc)]; rfl)
      have HX := Go.Lib.hid (show lineX t (lineR t st.reverse out) = if y.1 = t.f4 then (s.reverse, o ++ [vt 8 t]) else (s.reverse, o) by
        rw [← hn.out, lineX, List.reverse_reverse, ← HY.out])
      clear hc
      have HII := hI
      go_wp2_with fail
      go_region_held3 (fun w' => w'.cell? ⟨W.heap.size, 4, none⟩ = some (.int .i64 t.f4) ∧ Hid (In p W t s o w')) (first | exact ⟨hNew.out.box.c4, hNew⟩ | exact ⟨(HII.out.up (below_drew1 (Below.refl _ _))).box.c4, Go.Lib.hid (HII.out.up (below_drew1 (Below.refl _ _)))⟩) (first
        | (go_at_call 15; refine (HT.out _ (‹_ ∧ Hid (In p W t s o _)›).2.out).mono ?_; rintro e wn ⟨rfl, hbn⟩; have hNew := Go.Lib.hid ((‹_ ∧ Hid (In p W t s o _)›).2.out.up hbn); clear hbn))
      rename_i hHeldX
      clear hHeldX HII
      go_wp2_with fail
      have HII := hNew
      clear hNew
      by_cases he : y.1 = t.f4
      · have he' : (y.1 == t.f4) = true := beq_iff_eq.mpr he
        have HE := Go.Lib.hid he
        clear he
        go_region_held3 (fun w' => w'.cell? ⟨W.heap.size, 4, none⟩ = some (.int .i64 t.f4) ∧ Hid (In p W t s o w')) (first | exact ⟨hNew.out.box.c4, hNew⟩ | exact ⟨(HII.out.up (below_drew1 (Below.refl _ _))).box.c4, Go.Lib.hid (HII.out.up (below_drew1 (Below.refl _ _)))⟩) (first
          | (go_at_call 15; refine (HT.out _ (‹_ ∧ Hid (In p W t s o _)›).2.out).mono ?_; rintro e wn ⟨rfl, hbn⟩; have hNew := Go.Lib.hid ((‹_ ∧ Hid (In p W t s o _)›).2.out.up hbn); clear hbn))
        rename_i hHeldX
        clear hHeldX
        have ⟨b0, b1, b2, b3, b4⟩ := hNew.out.box
        have HP := Go.Lib.hid (putE HM.out.more 8 t hNew.out (by have := hL.out; omega))
        clear hI HII HT
        go_wp2_with fail
        refine HP.out.mono ?_
        rintro e w2 ⟨rfl, hI2⟩
        have HI2 := Go.Lib.hid hI2
        clear HP hNew hI2 b0 b1 b2 b3 b4
        go_wp2_with fail
        refine bodyPost_end (results_none rfl _ _ _) rfl ?_
        exact ⟨rfl, by rw [HX.out, if_pos HE.out]; show TwoE p s.reverse.reverse _ _; rw [List.reverse_reverse]; exact In.done H0.out HI2.out⟩
      · have he' : (y.1 == t.f4) = false := beq_eq_false_iff_ne.mpr he
        have HE := Go.Lib.hid he
        clear he
        go_region_held3 (fun w' => w'.cell? ⟨W.heap.size, 4, none⟩ = some (.int .i64 t.f4) ∧ Hid (In p W t s o w')) (first | exact ⟨hNew.out.box.c4, hNew⟩ | exact ⟨(HII.out.up (below_drew1 (Below.refl _ _))).box.c4, Go.Lib.hid (HII.out.up (below_drew1 (Below.refl _ _)))⟩) (first
          | (go_at_call 15; refine (HT.out _ (‹_ ∧ Hid (In p W t s o _)›).2.out).mono ?_; rintro e wn ⟨rfl, hbn⟩; have hNew := Go.Lib.hid ((‹_ ∧ Hid (In p W t s o _)›).2.out.up hbn); clear hbn))
        rename_i hHeldX
        clear hHeldX hI HII HT
        go_wp2_with fail
        refine bodyPost_end (results_none rfl _ _ _) rfl ?_
        exact ⟨rfl, by rw [HX.out, if_neg HE.out]; show TwoE p s.reverse.reverse _ _; rw [List.reverse_reverse]; exact hNew.out.done H0.out⟩
end Go.Proofs.Ytchbjjefjmcakaa.Lb
