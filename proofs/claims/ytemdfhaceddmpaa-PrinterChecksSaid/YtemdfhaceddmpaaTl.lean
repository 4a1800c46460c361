import Derived.Test.YtemdfhaceddmpaaTk
import Derived.Deep.QuietTactic
import Derived.BigQuiet
namespace Go.Proofs.Ytemdfhaceddmpaa.Tr
open Go.Shelf Go.RowKit Go.Proofs.Ytemdfhaceddmpaa.PPrinterTells Go.Proofs.YtemdfhaceddmpaaW.PrintWords Go.Proofs.YtemdfhaceddmpaaW.PrintLast Go.Proofs.YtemdfhaceddmpaaW.PrintMore
set_option linter.unusedVariables false
set_option linter.unusedSimpArgs false

def dfn (t : List S27) (k n : Nat) : List Int := if k < n then dar t k 0 n else deps (t.take k)
theorem rdT_nat (l : List S27) (i : Nat) (hi : i < l.length) : rd_T27 l (i : Int) = l[i] := by
  unfold rd_T27
  rw [Int.toNat_natCast, List.getD_eq_getElem?_getD, List.getElem?_eq_getElem hi]; rfl
theorem dfn_next (t : List S27) (k n : Nat) (ht : k < t.length) (hk : k < n) : (dar t k (mxk (deps (t.take k)) (t[k]).f3 0) n).set k (mxk (deps (t.take k)) (t[k]).f3 0 + 1) = dfn t (k + 1) n := by
  rw [dar_set _ _ _ _ _ (by omega)]
  unfold dfn
  by_cases h : k + 1 < n
  · rw [if_pos h]; exact dar_next t k n ht h rfl
  · rw [if_neg h]; exact dar_last t k n ht (by omega)

set_option maxHeartbeats 4000000 in
set_option maxRecDepth 100000 in
theorem depth_calls (t : List S27) (i : Nat) (A0 : Option Addr) (c0 : Nat) (w : World) (hr : Kd.C k27 w A0 t.length t) (hi : i < t.length) (ht : t.length ≤ 4096) (hk : ∀ k, (h : k < t.length) → k ≤ i → ∀ x ∈ (t[k]).f3, 0 ≤ x ∧ x < (k : Int)) :
    Calls Try.prog 25 #[.slice A0 t.length c0, .int .i64 (i : Int)] w fun e w' => e = .returned (.int .i64 (rd (deps (t.take (i + 1))) i)) ∧ Below w.heap.size w w' := by
  obtain ⟨rv, hrv⟩ : ∃ rv : Int, rv = rd (deps (t.take (i + 1))) i := ⟨_, rfl⟩
  have HRV := Go.Lib.hid hrv
  rw [← hrv]
  clear hrv
  have HR := Go.Lib.hid hr
  have HK := Go.Lib.hid hk
  have HT := Go.Lib.hid ht
  have HI := Go.Lib.hid hi
  have hmk : ∀ W : World, (Instr.makeSlice 25 (.int .i64 ((i : Int) + 1)) (.int .i64 ((i : Int) + 1))).run Try.prog W = .ok (.slice (some ⟨W.heap.size, 0, none⟩) (i + 1) (i + 1)) (W.alloc (.cells (madeCells #[.int .i64 0] (i + 1)) 3)) := by
    have h := print_make (P := Try.prog) 25 3 .i64 8 Try.underlying25 info3 (by decide) (i + 1) (by omega)
    simpa using h
  have hi9 : (i : Int) < 5000 := by omega
  have HIA0 := Go.Lib.hid (show IA (w.alloc (.cells (madeCells #[.int .i64 0] (i + 1)) 3)) w.heap.size (dfn t 0 (i + 1)) by
    have h := IA.made w (i + 1)
    rw [dar_start t (i + 1) (by omega)] at h
    unfold dfn; rw [if_pos (by omega)]; exact h)
  have HB0 := Go.Lib.hid (below_alloc (Below.refl w.heap.size w) (.cells (madeCells #[.int .i64 0] (i + 1)) 3))
  clear hr hk ht hi
  go_enter Try.func25, Try.ntmps25
  go_wp2_with fail
  clear hmk
  go_loopg [6] (i + 1) (fun g_ v6 w' => ∃ k : Nat, Hid (k + g_ = i + 1) ∧ v6 = .int .i64 k ∧ Hid (IA w' w.heap.size (dfn t k (i + 1))) ∧ Hid (Below w.heap.size w w'))
  case atStart => exact ⟨0, Go.Lib.hid (by omega), rfl, HIA0, HB0⟩
  case round =>
    obtain ⟨k, hg, rfl, hA, hb⟩ := hrel
    clear HIA0 HB0
    obtain ⟨wo, hwo⟩ : ∃ wo : World, wo = wr := ⟨_, rfl⟩
    subst hwo
    obtain ⟨ga, hga⟩ : ∃ ga : Nat, ga = gk := ⟨_, rfl⟩
    subst hga
    by_cases hlt : k < i + 1
    · have hle : (k : Int) ≤ (i : Int) := by omega
      have hk0 : (0 : Int) ≤ (k : Int) := by omega
      have hkt : (k : Int) < (t.length : Int) := by have := HI.out; omega
      have HKT := Go.Lib.hid (show k < t.length by have := HI.out; omega)
      obtain ⟨ad, A3, c3, rfl, p0, p1, p2, p3, p4, p5, l3, g3⟩ := at_T27 HR.out (k : Int) hk0 hkt
      rw [rdT_nat t k HKT.out] at p0 p1 p2 p3 p4 p5 l3 g3
      rw [Int.toNat_natCast] at p0 p1 p2 p3 p4 p5
      replace p0 := pw_cell_below hb.out p0
      replace p1 := pw_cell_below hb.out p1
      replace p2 := pw_cell_below hb.out p2
      replace p3 := pw_cell_below hb.out p3
      replace p4 := pw_cell_below hb.out p4
      replace p5 := pw_cell_below hb.out p5
      have HX := Go.Lib.hid (HK.out k HKT.out (by omega))
      have hA2 := Go.Lib.hid (show IA wo w.heap.size (dar t k (mxk (deps (t.take k)) ([] : List Int) 0) (i + 1)) by
        have h := hA.out; unfold dfn at h; rw [if_pos hlt] at h; exact h)
      have HN := Go.Lib.hid (dfn_next t k (i + 1) HKT.out hlt)
      have HLT := Go.Lib.hid hlt
      have HKB := Go.Lib.hid (show (t.take k).length ≤ k by rw [List.length_take]; omega)
      generalize t[k] = x at p0 p1 p2 p3 p4 p5 l3 g3 HX HN
      have G3 := Go.Lib.hid g3
      have hxl : (x.f3.length : Int) ≤ 9223372036854775807 := by have := G3.out.2.1; omega
      clear hlt g3 l3 hA
      go_wp2_with fail
      go_loopg [23] x.f3.length (fun g_ v23 w' => ∃ j : Nat, Hid (j + g_ = x.f3.length) ∧ v23 = .int .i64 j ∧ Hid (IA w' w.heap.size (dar t k (mxk (deps (t.take k)) (x.f3.take j) 0) (i + 1))) ∧ Hid (Below w.heap.size w w'))
      case atStart => exact ⟨0, Go.Lib.hid (by omega), rfl, hA2, hb⟩
      case round =>
        obtain ⟨j, hj, rfl, hA, hb2⟩ := hrel
        clear hA2
        obtain ⟨wi, hwi⟩ : ∃ wi : World, wi = wr := ⟨_, rfl⟩
        subst hwi
        have HD := Go.Lib.hid (show deps (t.take k) = deps (t.take k) from rfl)
        have HM := Go.Lib.hid (mxk_bound (d := deps (t.take k)) (B := k) (by omega) (fun y hy => by have := deps_bound (t.take k) y hy; have := HKB.out; omega) (x.f3.take j))
        by_cases hlt : j < x.f3.length
        · have hlt' : (j : Int) < (x.f3.length : Int) := by omega
          have hj0 : (0 : Int) ≤ (j : Int) := by omega
          obtain ⟨ad3, rfl, q0⟩ := Kd.at_int (Kd.C_below G3.out hb2.out) (j : Int) hj0 hlt'
          rw [rd_nat _ j hlt, Int.toNat_natCast] at q0
          have HY := Go.Lib.hid (HX.out _ (List.getElem_mem hlt))
          have HJ := Go.Lib.hid (show mxk (deps (t.take k)) (x.f3.take (j + 1)) 0 = if mxk (deps (t.take k)) (x.f3.take j) 0 < rd (deps (t.take k)) x.f3[j] then rd (deps (t.take k)) x.f3[j] else mxk (deps (t.take k)) (x.f3.take j) 0 by rw [List.take_succ_eq_append_getElem hlt, mxk_snoc])
          have HLJ := Go.Lib.hid hlt
          generalize x.f3[j] = y at q0 HY HJ
          have c1 := hA.out.cell y.toNat (dar_old t k (i + 1) _ y HY.out.1 HY.out.2 (by have := HKT.out; omega))
          have c2 := hA.out.cell k (dar_at t k (i + 1) _ (by have := HKT.out; omega))
          have hf2 := hA.out.frozen k
          have hy0 : 0 ≤ y := HY.out.1
          have hy1 : y < (i : Int) + 1 := by have := HY.out.2; have := HLT.out; omega
          have hk1 : (k : Int) < (i : Int) + 1 := by have := HLT.out; omega
          generalize mxk (deps (t.take k)) (x.f3.take j) 0 = m at *
          generalize hdy : rd (deps (t.take k)) y = dy at *
          clear hdy hlt HD
          by_cases hc : m < dy
          · have hd1 : decide (m < dy) = true := decide_eq_true hc
            have HJ2 := Go.Lib.hid (show mxk (deps (t.take k)) (x.f3.take (j + 1)) 0 = dy by rw [HJ.out, if_pos hc])
            clear hc HJ
            go_wp2_with fail
            go_quiet (fail)
            go_wp2_with fail
            go_roundg (gk - 1)
            case measure => have := hj.out; have := HLJ.out; omega
            case rel =>
              refine ⟨j + 1, Go.Lib.hid (by have := hj.out; have := HLJ.out; omega), by go_num, Go.Lib.hid ?_, Go.Lib.hid ?_⟩
              · rw [HJ2.out, ← dar_set t k (i + 1) m dy (by have := HKT.out; omega)]
                exact (hA.out.drewN _).put k dy
              · exact (pw_below_drewN hb2.out _).setCell (Nat.le_refl _) _
          · have hd1 : decide (m < dy) = false := decide_eq_false hc
            have HJ2 := Go.Lib.hid (show mxk (deps (t.take k)) (x.f3.take (j + 1)) 0 = m by rw [HJ.out, if_neg hc])
            clear hc HJ
            go_wp2_with fail
            go_quiet (fail)
            go_wp2_with fail
            go_roundg (gk - 1)
            case measure => have := hj.out; have := HLJ.out; omega
            case rel =>
              refine ⟨j + 1, Go.Lib.hid (by have := hj.out; have := HLJ.out; omega), by go_num, Go.Lib.hid ?_, Go.Lib.hid ?_⟩
              · rw [HJ2.out]; exact hA.out.drewN _
              · exact pw_below_drewN hb2.out _
        · have hd : decide ((j : Int) < (x.f3.length : Int)) = false := decide_eq_false (by omega)
          have hd2 : decide (j < x.f3.length) = false := decide_eq_false hlt
          have hd3 : ¬ (j : Int) < (x.f3.length : Int) := by omega
          have HJ := Go.Lib.hid (show x.f3.take j = x.f3 by rw [List.take_of_length_le (by omega)])
          have hA2 := Go.Lib.hid (show IA wi w.heap.size (dar t k (mxk (deps (t.take k)) x.f3 0) (i + 1)) by have h := hA.out; rw [HJ.out] at h; exact h)
          have HM2 := Go.Lib.hid (show 0 ≤ mxk (deps (t.take k)) x.f3 0 ∧ mxk (deps (t.take k)) x.f3 0 ≤ (k : Int) by have h := HM.out; rw [HJ.out] at h; exact h)
          clear hA HM
          generalize mxk (deps (t.take k)) x.f3 0 = m at *
          have c2 := hA2.out.cell k (dar_at t k (i + 1) _ (by have := HKT.out; omega))
          have hf2 := hA2.out.frozen k
          have hk1 : (k : Int) < (i : Int) + 1 := by have := HLT.out; omega
          have hm0 : 0 ≤ m := HM2.out.1
          have hm1 : m ≤ (k : Int) := HM2.out.2
          clear hlt
          go_wp2_with fail
          go_roundg (ga - 1)
          case measure => have := hg.out; have := HLT.out; omega
          case rel =>
            refine ⟨k + 1, Go.Lib.hid (by have := hg.out; have := HLT.out; omega), by go_num, Go.Lib.hid ?_, Go.Lib.hid ?_⟩
            · rw [← HN.out]; exact hA2.out.put k _
            · exact hb2.out.setCell (Nat.le_refl _) _
    · have hle : ¬ (k : Int) ≤ (i : Int) := by omega
      have hd : decide ((k : Int) ≤ (i : Int)) = false := decide_eq_false hle
      have hd2 : decide (k ≤ i) = false := decide_eq_false (by omega)
      have HE := Go.Lib.hid (show k = i + 1 by have := hg.out; omega)
      have hA2 := Go.Lib.hid (show IA wo w.heap.size (deps (t.take (i + 1))) by have h := hA.out; rw [HE.out] at h; unfold dfn at h; rw [if_neg (by omega)] at h; exact h)
      have c2 := hA2.out.cell i (x := rv) (by
        rw [HRV.out]
        have hl : i < (deps (t.take (i + 1))).length := by rw [deps_len, List.length_take]; have := HI.out; omega
        rw [rd_nat _ _ hl, List.getElem?_eq_getElem hl])
      clear hlt
      go_wp2_with fail
      go_ret
      exact ⟨rfl, hb.out⟩
end Go.Proofs.Ytemdfhaceddmpaa.Tr
