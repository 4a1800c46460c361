/- BestCycle (the reference). -/
import Derived.Test.YtdobkkoonamocaaCe
import Derived.Deep.DeepCutAuto
import Derived.Deep.CutRange
import Derived.Deep.QuietTactic
import Derived.BigQuiet
import Derived.Deep.CutBlock
namespace Go.Proofs.Ytdobkkoonamocaa.Mo
open Go.RowKit Go.Lib Go.Proofs.Ytdobkkoonamocaa.PModulesOrdered Go.Proofs.Ytdobkkoonamocaa.Cx Go.Proofs.YtdobkkoonamocaaW.PrintWords Go.Proofs.YtdobkkoonamocaaW.PrintLast Go.Proofs.YtdobkkoonamocaaW.PrintMore
set_option linter.unusedVariables false
set_option linter.unusedSimpArgs false
theorem nx_in {N : List ByteArray} {I : List (List ByteArray)} (hM : Mods N I) : ∀ s x, x ∈ nxS N I s → x ∈ dS N := by
  intro s x hx
  obtain ⟨q, hq, rfl⟩ := List.mem_map.1 hx
  unfold nxB rd_L1 at hq
  rw [Int.toNat_natCast, List.getD_eq_getElem?_getD] at hq
  by_cases h : idxS N s < I.length
  · rw [List.getElem?_eq_getElem h] at hq
    exact hasB_mem.1 (hM.all _ (List.getElem_mem _) q hq)
  · rw [List.getElem?_eq_none (by omega)] at hq
    cases hq
/-- Is a cycle taken? -/
def pkB (bo : Option (List Str)) (l : List Str) : Bool := match bo with
  | none => true
  | some x => better l x
theorem pick_pk (bo : Option (List Str)) (l : List Str) : pickB bo l = if pkB bo l then some l else bo := by
  cases bo with
  | none => rfl
  | some x => rfl
/-- The best one so far, as a value. -/
def BV (W : World) (v : Value) (bo : Option (List Str)) : Prop := match bo with
  | none => v = .slice none 0 0
  | some l => ∃ (ad : Addr) (c : Nat) (L : List ByteArray), v = .slice (some ad) L.length c ∧ dS L = l ∧ RdS W (some ad) L ∧ L.length ≤ c
theorem BV.up {W W' : World} {v : Value} {bo : Option (List Str)} (h : BV W v bo) (hb : Below W.heap.size W W') : BV W' v bo := by
  cases bo with
  | none => exact h
  | some l =>
    obtain ⟨ad, c, L, h1, h2, h3, h4⟩ := h
    exact ⟨ad, c, L, h1, h2, h3.up hb, h4⟩
theorem BV.slice {W : World} {v : Value} {bo : Option (List Str)} (h : BV W v bo) : ∃ A n c, v = .slice A n c := by
  cases bo with
  | none => exact ⟨none, 0, 0, h⟩
  | some l =>
    obtain ⟨ad, c, L, h1, _⟩ := h
    exact ⟨some ad, L.length, c, h1⟩
theorem rds_some {W : World} {A : Option Addr} {l : List ByteArray} (h : RdS W A l) (hl : l ≠ []) : ∃ ad, A = some ad := by
  obtain ⟨y, hy⟩ : ∃ y, l[0]? = some y := ⟨_, List.getElem?_eq_getElem (List.length_pos_iff.2 hl)⟩
  obtain ⟨ad, e, _⟩ := h.at_ hy
  exact ⟨ad, e⟩
set_option maxHeartbeats 400000 in
set_option maxRecDepth 100000 in
theorem best_calls (N : List ByteArray) (I : List (List ByteArray)) (hF : Few N I) (A0 A1 : Option Addr) (c0 c1 : Nat) (w : World) (hr0 : RdS w A0 N) (hc0 : N.length ≤ c0) (hr1 : Kd.C (Kd.slice 9 Kd.string) w A1 I.length I) (hc1 : I.length ≤ c1) :
    Calls Try.prog 17 #[.slice A0 N.length c0, .slice A1 I.length c1] w fun e w' => ResW (bestP (nxS N I) (dS N) N.length) e w' ∧ Below w.heap.size w w' := by
  have HR0 := Go.Lib.hid hr0
  have HR1 := Go.Lib.hid hr1
  have HF := Go.Lib.hid hF
  have hn6 : (N.length : Int) ≤ 6 := by have := hF.six; omega
  have hn0 : (0 : Int) ≤ (N.length : Int) := by omega
  have Q22 := q22
  clear hr0 hr1 hF
  go_enter Try.func17, Try.ntmps17
  go_wp2_with fail
  go_loopg [5, 12] N.length (fun k v5 v12 wr => ∃ (i : Nat) (bo : Option (List Str)), Hid (i + k = N.length) ∧ v12 = .int .i64 i ∧ Hid (BV wr v5 bo) ∧ Hid (bestP (nxS N I) (dS N) N.length = ((((dS N).drop i).flatMap fun s => cycL (nxS N I) (dS N) N.length [s])).foldl pickB bo) ∧ Hid (Below w.heap.size w wr))
  case atStart => exact ⟨0, none, Go.Lib.hid (by omega), rfl, Go.Lib.hid rfl, Go.Lib.hid (by rw [List.drop_zero]; rfl), Go.Lib.hid (Below.refl _ _)⟩
  case round =>
    obtain ⟨i, bo, hi, rfl, hBV, hP, hB⟩ := hrel
    obtain ⟨gk_, rfl⟩ : ∃ gk_, gk_ = gk := ⟨_, rfl⟩
    obtain ⟨Ab, nb, cb, rfl⟩ := hBV.out.slice
    by_cases hlt : i < N.length
    · have hlt' : (i : Int) < (N.length : Int) := by omega
      have hi0 : (0 : Int) ≤ (i : Int) := by omega
      obtain ⟨s, hs⟩ : ∃ s, N[i]? = some s := ⟨_, List.getElem?_eq_getElem hlt⟩
      obtain ⟨ad, rfl, s0⟩ := (HR0.out.up hB.out).at_ hs
      have hsN := Go.Lib.hid (show hasB N s = true from hasB_mem.2 (List.mem_map.2 ⟨s, List.mem_of_getElem? hs, rfl⟩))
      have hdr := Go.Lib.hid (show (dS N).drop i = s.toList :: (dS N).drop (i + 1) from by
        have h1 : (dS N)[i]? = some s.toList := by unfold dS; rw [List.getElem?_map, hs]; rfl
        obtain ⟨hl2, h2⟩ := List.getElem?_eq_some_iff.1 h1
        rw [List.drop_eq_getElem_cons hl2, h2])
      obtain ⟨K, r, hK, hr, hrl⟩ := cyc_f N I HF.out N.length HF.out.six [s] (by simp) (by simp [dS]) (fun q hq => by rw [List.mem_singleton.1 hq]; exact hsN.out) (by simp; omega)
      have hr9 : (r.length : Int) ≤ 10000 := by have := bnd_le N.length HF.out.six; omega
      have hr0 : (0 : Int) ≤ (r.length : Int) := by omega
      have hP1 := Go.Lib.hid (show bestP (nxS N I) (dS N) N.length = ((((dS N).drop (i + 1)).flatMap fun s => cycL (nxS N I) (dS N) N.length [s])).foldl pickB ((r.map dS).foldl pickB bo) from by
        rw [hP.out, hdr.out, List.flatMap_cons, List.foldl_append, hr]; rfl)
      have hbig := Go.Lib.hid (show ∀ l ∈ r, l ≠ [] ∧ l.length ≤ 100 from fun l hl => by
        have h1 : dS l ∈ cycL (nxS N I) (dS N) N.length (dS [s]) := by rw [← hr]; exact List.mem_map.2 ⟨l, hl, rfl⟩
        obtain ⟨d, hd1, h2⟩ := (cycL_mem (nxS N I) (dS N) (nx_in HF.out.mods) _ _ _).1 h1
        obtain ⟨q, h3, h4⟩ := hits_pre _ d h2
        have h5 := congrArg List.length h3
        rw [dS_length, List.length_append, dS_length, h4, List.length_singleton] at h5
        have := HF.out.six
        exact ⟨fun e => by rw [e] at h5; simp at h5; omega, by omega⟩)
      have hB1 := Go.Lib.hid (hB.out.trans (below_alloc (Below.refl wr.heap.size wr) (.cells #[.string s] 9) |>.mono hB.out.size))
      have HCY := Go.Lib.hid (provenanceref1_Cycles.calls K (some ad) c0 N A1 c1 I (some ⟨wr.heap.size, 0, none⟩) 1 [s] r (wr.alloc (.cells #[.string s] 9)) (HR0.out.up hB1.out) hc0 (Kd.C_below HR1.out hB1.out) hc1 (lit_S (blk_new wr _) rfl (by simp)) (by simp) (hK K (Nat.le_refl _)))
      have hBV1 := Go.Lib.hid (hBV.out.up (below_alloc (Below.refl wr.heap.size wr) (.cells #[.string s] 9)))
      have HLT := Go.Lib.hid hlt
      clear hlt hs hK hrl
      go_wp2_with fail
      refine HCY.out.mono ?_
      rintro e w2 ⟨v0, rfl, hN0, hb2⟩
      obtain ⟨Ar, cr, rfl⟩ := Kd.N_slice hN0
      have hRr := Go.Lib.hid (Kd.N_reads' hN0).2.2
      have hB2 := Go.Lib.hid (hB1.out.trans (hb2.mono hB1.out.size))
      have hBV2 := Go.Lib.hid (hBV1.out.up hb2)
      clear hN0 hb2 HCY hBV hBV1 s0 hr
      generalize (wr.alloc (.cells #[.string s] 9)) = w1_ at *
      go_wp2_with fail
      go_loopg [5, 22] r.length (fun k2 v5 v22 wx => ∃ (j : Nat) (b2 : Option (List Str)), Hid (j + k2 = r.length) ∧ v22 = .int .i64 j ∧ Hid (BV wx v5 b2) ∧ Hid ((r.map dS).foldl pickB bo = ((r.drop j).map dS).foldl pickB b2) ∧ Hid (Below w2.heap.size w2 wx))
      case atStart => exact ⟨0, bo, Go.Lib.hid (by omega), rfl, hBV2, Go.Lib.hid (by rw [List.drop_zero]), Go.Lib.hid (Below.refl _ _)⟩
      case round =>
        clear hBV2
        obtain ⟨j, b2, hj, rfl, hBV, hQ, hB3⟩ := hrel
        obtain ⟨Ab2, nb2, cb2, rfl⟩ := hBV.out.slice
        have hBw := Go.Lib.hid (hB2.out.trans (hB3.out.mono hB2.out.size))
        by_cases hjl : j < r.length
        · have hjl' : (j : Int) < (r.length : Int) := by omega
          have hj0 : (0 : Int) ≤ (j : Int) := by omega
          obtain ⟨adR, Al, cl, rfl, l0, hlc, hRl⟩ := at_L1 (Kd.C_below hRr.out hB3.out) (j : Int) hj0 hjl'
          rw [Int.toNat_natCast] at l0
          have hget := rd_L1_get (I := r) (i := j) hjl
          have hmem := hbig.out (rd_L1 r (j : Int)) (by rw [hget]; exact List.getElem_mem _)
          have hdj := Go.Lib.hid (show (r.drop j).map dS = dS (rd_L1 r (j : Int)) :: (r.drop (j + 1)).map dS by rw [List.drop_eq_getElem_cons hjl, hget]; rfl)
          obtain ⟨L, hL⟩ : ∃ L, L = rd_L1 r (j : Int) := ⟨_, rfl⟩
          rw [← hL] at hmem hdj hRl hlc l0
          obtain ⟨adl, rfl⟩ := rds_some hRl hmem.1
          have hRL := Go.Lib.hid (show RdS wr (some adl) L from hRl)
          have hl9 := Go.Lib.hid hmem.2
          have hl99 : (L.length : Int) ≤ 100 := by have := hmem.2; omega
          have HJL := Go.Lib.hid hjl
          clear hjl hmem hL hget hRl
          go_upto_region 8 with fail
          go_cut [46] from 26 to 45 (fun s46 wx => s46 = .bool (pkB b2 (dS L)) ∧ Hid (Below wr.heap.size wr wx))
          case first =>
            cases b2 with
            | none =>
              have hv := hBV.out
              injection hv with e1 e2 e3
              subst e1 e2 e3
              clear hBV
              go_wp2_with fail
              go_meet
              exact ⟨rfl, Go.Lib.hid (Below.refl _ _)⟩
            | some x =>
              obtain ⟨ad9, c9, L9, hv, hx9, hR9, hc9⟩ := hBV.out
              injection hv with e1 e2 e3
              subst e1 e2 e3
              have hR9 := Go.Lib.hid hR9
              by_cases q1 : L.length < L9.length
              · have d1 : decide ((L.length : Int) < (L9.length : Int)) = true := decide_eq_true (by omega)
                have d2 : decide (L.length < L9.length) = true := decide_eq_true q1
                have hf := Go.Lib.hid (show pkB (some x) (dS L) = true by
                  show better (dS L) x = true
                  rw [← hx9]
                  unfold better
                  rw [dS_length, dS_length, decide_eq_true q1]; rfl)
                clear q1 hx9 hBV
                go_wp2_with fail
                go_meet
                exact ⟨by rw [hf.out], Go.Lib.hid (Below.refl _ _)⟩
              · have d1 : decide ((L.length : Int) < (L9.length : Int)) = false := decide_eq_false (by omega)
                have d2 : decide (L.length < L9.length) = false := decide_eq_false q1
                by_cases q2 : L.length = L9.length
                · have d3 : ((L.length : Int) == (L9.length : Int)) = true := beq_iff_eq.mpr (by omega)
                  have d4 : (L.length == L9.length) = true := beq_iff_eq.mpr q2
                  have hf := Go.Lib.hid (show pkB (some x) (dS L) = lessL (dS L) x by
                    show better (dS L) x = _
                    rw [← hx9]
                    unfold better
                    rw [dS_length, dS_length, decide_eq_false q1, decide_eq_true q2, Bool.false_or, Bool.true_and])
                  have HLS := Go.Lib.hid (provenanceref1_lessStrings.calls (L.length + 1) (some adl) cl L (some ad9) cb2 L9 _ wr hRL.out hlc hR9.out hc9 (less_f L L9 q2 (by have := hl9.out; omega)))
                  rw [hx9] at HLS
                  have d5 : L9.length = L.length := q2.symm
                  clear q1 hx9 hBV d1 d2 d3 d4 q2
                  have d2 : decide (L.length < L9.length) = false := decide_eq_false (by omega)
                  have d1 : decide ((L.length : Int) < (L9.length : Int)) = false := decide_eq_false (by omega)
                  have d4 : (L.length == L9.length) = true := beq_iff_eq.mpr d5.symm
                  have d3 : ((L.length : Int) == (L9.length : Int)) = true := beq_iff_eq.mpr (by omega)
                  clear d5
                  go_wp2_with fail
                  refine HLS.out.mono ?_
                  rintro e w5 ⟨rfl, hd5⟩
                  have hb5 := Go.Lib.hid hd5.below
                  clear hd5 HLS
                  go_wp2_with fail
                  go_meet
                  exact ⟨by rw [hf.out], hb5⟩
                · have d3 : ((L.length : Int) == (L9.length : Int)) = false := beq_eq_false_iff_ne.mpr (by omega)
                  have d4 : (L.length == L9.length) = false := beq_eq_false_iff_ne.mpr q2
                  have hf := Go.Lib.hid (show pkB (some x) (dS L) = false by
                    show better (dS L) x = false
                    rw [← hx9]
                    unfold better
                    rw [dS_length, dS_length, decide_eq_false q1, decide_eq_false q2]; rfl)
                  clear q1 q2 hx9 hBV
                  go_wp2_with fail
                  go_meet
                  exact ⟨by rw [hf.out], Go.Lib.hid (Below.refl _ _)⟩
          case rest =>
            obtain ⟨rfl, hbc⟩ := hcut
            have hB4 := Go.Lib.hid (hB3.out.trans (hbc.out.mono hB3.out.size))
            have hBV4 := Go.Lib.hid (hBV.out.up hbc.out)
            have hRL4 := Go.Lib.hid (hRL.out.up hbc.out)
            have hQ1 := Go.Lib.hid (show (r.map dS).foldl pickB bo = ((r.drop (j + 1)).map dS).foldl pickB (if pkB b2 (dS L) then some (dS L) else b2) by
              rw [hQ.out, hdj.out, List.foldl_cons, pick_pk])
            generalize pkB b2 (dS L) = pb at *
            clear hBV hRL hQ hdj l0
            cases pb with
            | true =>
              have hQ2 := Go.Lib.hid (show (r.map dS).foldl pickB bo = ((r.drop (j + 1)).map dS).foldl pickB (some (dS L)) by rw [hQ1.out]; rfl)
              go_wp2_with fail
              go_roundg (gk - 1)
              case measure => have := hj.out; have := HJL.out; omega
              case rel => exact ⟨j + 1, some (dS L), Go.Lib.hid (by have := hj.out; have := HJL.out; omega), by go_num, Go.Lib.hid ⟨adl, cl, L, rfl, rfl, hRL4.out, hlc⟩, hQ2, hB4⟩
            | false =>
              have hQ2 := Go.Lib.hid (show (r.map dS).foldl pickB bo = ((r.drop (j + 1)).map dS).foldl pickB b2 by rw [hQ1.out]; rfl)
              go_wp2_with fail
              go_roundg (gk - 1)
              case measure => have := hj.out; have := HJL.out; omega
              case rel => exact ⟨j + 1, b2, Go.Lib.hid (by have := hj.out; have := HJL.out; omega), by go_num, hBV4, hQ2, hB4⟩
        · have hjd : decide ((j : Int) < (r.length : Int)) = false := decide_eq_false (by omega)
          have hjd2 : decide (j < r.length) = false := decide_eq_false hjl
          have hjn : ¬ (j : Int) < (r.length : Int) := by omega
          have hP2 := Go.Lib.hid (show bestP (nxS N I) (dS N) N.length = ((((dS N).drop (i + 1)).flatMap fun s => cycL (nxS N I) (dS N) N.length [s])).foldl pickB b2 by
            rw [hP1.out, hQ.out, List.drop_eq_nil_of_le (by omega)]; rfl)
          clear hjl
          go_wp2_with fail
          go_roundg (gk_ - 1)
          case measure => have := hi.out; have := HLT.out; omega
          case rel => exact ⟨i + 1, b2, Go.Lib.hid (by have := hi.out; have := HLT.out; omega), by go_num, hBV, hP2, hBw⟩
    · have hjd : decide ((i : Int) < (N.length : Int)) = false := decide_eq_false (by omega)
      have hjd2 : decide (i < N.length) = false := decide_eq_false hlt
      have hjn : ¬ (i : Int) < (N.length : Int) := by omega
      have hn := Go.Lib.hid (show bestP (nxS N I) (dS N) N.length = bo by
        rw [hP.out, List.drop_eq_nil_of_le (by rw [dS_length]; omega)]; rfl)
      clear hlt
      go_wp2_with fail
      go_ret
      refine ⟨?_, hB.out⟩
      rw [hn.out]
      have h := hBV.out
      cases bo with
      | none => exact congrArg Ending.returned h
      | some l =>
        obtain ⟨ad, c, L, h1, h2⟩ := h
        exact ⟨ad, c, L, congrArg Ending.returned h1, h2⟩
end Go.Proofs.Ytdobkkoonamocaa.Mo
