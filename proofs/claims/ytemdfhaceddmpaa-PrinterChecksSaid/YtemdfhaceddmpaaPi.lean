import Derived.Test.YtemdfhaceddmpaaPh
namespace Go.Proofs.Ytemdfhaceddmpaa.Tr
open Go.Shelf Go.RowKit Go.Proofs.Ytemdfhaceddmpaa.PPrinterTells Go.Proofs.YtemdfhaceddmpaaW.PrintWords Go.Proofs.YtemdfhaceddmpaaW.PrintLast Go.Proofs.YtemdfhaceddmpaaW.PrintMore
set_option linter.unusedVariables false
set_option linter.unusedSimpArgs false
theorem allB_snoc (fi la : List Int) (be : Int) (l : List Int) (n : Nat) : allB fi la be l (n + 1) = (allB fi la be l n && inK (lt fi la be (l.length - fi.length - la.length) n) (l.getD n 0)) := by
  unfold allB
  rw [List.range_succ, List.all_append]
  simp
theorem allB_false {fi la : List Int} {be : Int} {l : List Int} {n m : Nat} (h : allB fi la be l n = false) (hn : n ≤ m) : allB fi la be l m = false := by
  unfold allB at h ⊢
  rw [List.all_eq_false] at h ⊢
  obtain ⟨x, hx, h⟩ := h
  exact ⟨x, List.mem_range.2 (Nat.lt_of_lt_of_le (List.mem_range.1 hx) hn), h⟩

set_option maxHeartbeats 8000000 in
set_option maxRecDepth 100000 in
/-- fits at a kind without groups. -/
theorem fits_shp (k : Int) (l : List Int) (A : Option Addr) (c : Nat) (w : World) (h0 : 0 ≤ k) (h1 : k ≤ 38) (h2 : ¬ k = 24) (h3 : k ∉ ([5, 9, 10, 17, 18] : List Int)) (hr : Kd.C (Kd.int .i64) w A l.length l) (hl : l.length ≤ 17592186044416) :
    Calls Try.prog 9 #[.int .i64 k, .slice A l.length c] w fun e w' => e = .returned (.bool (shpB k l)) ∧ Below w.heap.size w w' := by
  obtain ⟨fi, la, be, le, hfi, hla, hle, hsp, hsc, hgc⟩ := shapes k h0 h1 h2 h3
  obtain ⟨rv, hrv⟩ : ∃ rv, rv = shpB k l := ⟨_, rfl⟩
  rw [← hrv]
  have HRV := Go.Lib.hid (show rv = (decide (fi.length + la.length + le ≤ l.length) && allB fi la be l l.length) by rw [hrv, hsp]; rfl)
  have HG := Go.Lib.hid (hgc w)
  have HS := Go.Lib.hid (hsc w)
  have k24 : (k == 24) = false := beq_eq_false_iff_ne.2 h2
  have HR := Go.Lib.hid hr
  have hl9 : (l.length : Int) ≤ 17592186044416 := by omega
  have hf9 : (fi.length : Int) ≤ 3 := by omega
  have ha9 : (la.length : Int) ≤ 3 := by omega
  have he9 : (le : Int) ≤ 1 := by omega
  have hq := q40 w none 0 0 0 0
  clear hsp hsc hgc h0 h1 h2 h3 hr hl hrv hfi hla hle
  go_enter Try.func9, Try.ntmps9
  go_wp2_with fail
  refine HG.out.mono ?_
  rintro e w1 ⟨rfl, rfl⟩
  clear HG
  go_wp2_with fail
  refine HS.out.mono ?_
  rintro e w2 ⟨A1, c1, A2, c2, f, rfl, hF1, hF2, hF, hb⟩
  obtain ⟨nf, fn, caps, rfl, hfn, hfnm, hfb, hfcall⟩ := hF
  have he := fun (args : Array Value) (w : World) => enters_ (P := Try.prog) hfn hfnm hfb args w
  have HF1 := Go.Lib.hid hF1
  have HF2 := Go.Lib.hid hF2
  have HB := Go.Lib.hid hb
  have HCB := Go.Lib.hid hfcall
  clear hF1 hF2 hb HS hfn hfnm hfb hfcall hq
  by_cases hin : fi.length + la.length + le ≤ l.length
  rotate_left
  · have hlt : (l.length : Int) - (fi.length : Int) - (la.length : Int) < (le : Int) := by omega
    have hd : decide ((l.length : Int) - (fi.length : Int) - (la.length : Int) < (le : Int)) = true := decide_eq_true hlt
    have HV := Go.Lib.hid (show rv = false by rw [HRV.out, decide_eq_false hin]; rfl)
    have HB2 := Go.Lib.hid (below_alloc HB.out (.cells #[.slice A1 fi.length c1, .slice A2 la.length c2, .func (.func nf) #[] caps, .int .i64 le] 44))
    clear hin
    unfold fv
    go_wp2_with fail
    go_ret
    exact ⟨by rw [HV.out]; rfl, HB2.out⟩
  obtain ⟨inn, hinn⟩ : ∃ inn : Nat, (l.length : Int) - (fi.length : Int) - (la.length : Int) = inn := ⟨l.length - fi.length - la.length, by omega⟩
  have HIN := Go.Lib.hid (show l.length - fi.length - la.length = inn by omega)
  have hge : ¬ (inn : Int) < (le : Int) := by omega
  have hd : decide ((inn : Int) < (le : Int)) = false := decide_eq_false hge
  have hd' : decide (inn < le) = false := decide_eq_false (by omega)
  have hi9 : (inn : Int) ≤ 17592186044416 := by omega
  have HV := Go.Lib.hid (show rv = allB fi la be l l.length by rw [HRV.out, decide_eq_true hin]; rfl)
  have HSUM := Go.Lib.hid (show fi.length + inn + la.length = l.length by omega)
  have HB2 := Go.Lib.hid (below_alloc HB.out (.cells #[.slice A1 fi.length c1, .slice A2 la.length c2, .func (.func nf) #[] caps, .int .i64 le] 44))
  have HW2 := Go.Lib.hid (below_alloc (Below.refl w2.heap.size w2) (.cells #[.slice A1 fi.length c1, .slice A2 la.length c2, .func (.func nf) #[] caps, .int .i64 le] 44))
  clear hin HRV
  unfold fv
  go_wp2_with fail
  go_loopg [78] l.length (fun g_ v78 w' => ∃ j : Nat, Hid (j + g_ = l.length) ∧ v78 = .int .i64 j ∧ Hid (allB fi la be l j = true) ∧ w' = w2.alloc (.cells #[.slice A1 fi.length c1, .slice A2 la.length c2, .func (.func nf) #[] caps, .int .i64 le] 44))
  case atStart => exact ⟨0, Go.Lib.hid (by omega), rfl, Go.Lib.hid rfl, rfl⟩
  case round =>
    obtain ⟨j, hj, rfl, hok, rfl⟩ := hrel
    by_cases hlt : j < l.length
    · have hlt' : (j : Int) < (l.length : Int) := by omega
      have hj0 : (0 : Int) ≤ (j : Int) := by omega
      obtain ⟨adl, e_, q0⟩ := Kd.at_int (Kd.C_below HR.out HB2.out) (j : Int) hj0 hlt'
      subst e_
      rw [rd_nat _ j hlt, Int.toNat_natCast] at q0
      have HNX := Go.Lib.hid (show allB fi la be l (j + 1) = inK (lt fi la be inn j) l[j] by
        rw [allB_snoc, hok.out, HIN.out, List.getD_eq_getElem?_getD, List.getElem?_eq_getElem hlt]; rfl)
      have HLT := Go.Lib.hid hlt
      generalize l[j] = y at q0 HNX
      clear hlt
      by_cases t1 : j < fi.length
      · have t1' : (j : Int) < (fi.length : Int) := by omega
        have d1 : decide ((j : Int) < (fi.length : Int)) = true := decide_eq_true t1'
        have d1' : decide (j < fi.length) = true := decide_eq_true t1
        obtain ⟨g1, e1, hfr⟩ := HF1.out (by intro e; rw [e] at t1; exact absurd t1 (Nat.not_lt_zero _))
        subst e1
        obtain ⟨f1, hc1, n1, fn1, caps1, rfl, hfn, hfnm, hfb, hfcall⟩ := hfr j (rd fi j) (by rw [rd_nat fi j t1, List.getElem?_eq_getElem t1])
        have he1 := fun (args : Array Value) (w : World) => enters_ (P := Try.prog) hfn hfnm hfb args w
        have hlt1 : lt fi la be inn j = rd fi j := by unfold lt; rw [if_pos t1]; rfl
        have HCY := Go.Lib.hid (show Calls Try.prog n1 (#[.int .i64 y] ++ caps1) (w2.alloc (.cells #[.slice (some ⟨g1, 0, none⟩) fi.length c1, .slice A2 la.length c2, .func (.func nf) #[] caps, .int .i64 le] 44)) (fun e w' => e = .returned (.bool (inK (lt fi la be inn j) y)) ∧ w' = w2.alloc (.cells #[.slice (some ⟨g1, 0, none⟩) fi.length c1, .slice A2 la.length c2, .func (.func nf) #[] caps, .int .i64 le] 44)) by
          rw [hlt1]; exact hfcall _ HW2.out y)
        have hcc := pw_cell_below HW2.out hc1
        unfold fv at hcc
        clear hfn hfnm hfb hfcall hfr hlt1 hc1 t1
        generalize inK (lt fi la be inn j) y = bx at *
        cases bx
        · have HF0 := Go.Lib.hid (show rv = false by rw [HV.out]; exact allB_false (n := j + 1) HNX.out HLT.out)
          go_wp2_with fail
          refine HCY.out.mono ?_
          rintro e w4 ⟨rfl, rfl⟩
          go_wp2_with fail
          go_ret
          exact ⟨by rw [HF0.out]; rfl, HB2.out⟩
        · go_wp2_with fail
          refine HCY.out.mono ?_
          rintro e w4 ⟨rfl, rfl⟩
          go_wp2_with fail
          go_roundg (gk - 1)
          case measure => have := hj.out; have := HLT.out; omega
          case rel => exact ⟨j + 1, Go.Lib.hid (by have := hj.out; have := HLT.out; omega), by go_num, HNX, rfl⟩

      have t1' : ¬ (j : Int) < (fi.length : Int) := by omega
      have d1 : decide ((j : Int) < (fi.length : Int)) = false := decide_eq_false t1'
      have d1' : decide (j < fi.length) = false := decide_eq_false t1
      by_cases t2 : fi.length + inn ≤ j
      · have d2 : decide ((fi.length : Int) + (inn : Int) ≤ (j : Int)) = true := decide_eq_true (by omega)
        obtain ⟨i2, hi2⟩ : ∃ i2 : Nat, (j : Int) - (fi.length : Int) - (inn : Int) = (i2 : Int) := ⟨j - fi.length - inn, by omega⟩
        have ti2 : i2 < la.length := by have := HSUM.out; have := HLT.out; omega
        have hi2' : (i2 : Int) < (la.length : Int) := by omega
        obtain ⟨g2, e2, hfr⟩ := HF2.out (by intro e; rw [e] at ti2; exact absurd ti2 (Nat.not_lt_zero _))
        subst e2
        obtain ⟨f1, hc1, n1, fn1, caps1, rfl, hfn, hfnm, hfb, hfcall⟩ := hfr i2 (rd la i2) (by rw [rd_nat la i2 ti2, List.getElem?_eq_getElem ti2])
        have he1 := fun (args : Array Value) (w : World) => enters_ (P := Try.prog) hfn hfnm hfb args w
        have hlt1 : lt fi la be inn j = rd la i2 := by
          unfold lt; rw [if_neg t1, if_pos t2, show j - fi.length - inn = i2 by omega]; rfl
        have HCY := Go.Lib.hid (show Calls Try.prog n1 (#[.int .i64 y] ++ caps1) (w2.alloc (.cells #[.slice A1 fi.length c1, .slice (some ⟨g2, 0, none⟩) la.length c2, .func (.func nf) #[] caps, .int .i64 le] 44)) (fun e w' => e = .returned (.bool (inK (lt fi la be inn j) y)) ∧ w' = w2.alloc (.cells #[.slice A1 fi.length c1, .slice (some ⟨g2, 0, none⟩) la.length c2, .func (.func nf) #[] caps, .int .i64 le] 44)) by
          rw [hlt1]; exact hfcall _ HW2.out y)
        have hcc := pw_cell_below HW2.out hc1
        unfold fv at hcc
        clear hfn hfnm hfb hfcall hfr hlt1 hc1 t1 t2
        generalize inK (lt fi la be inn j) y = bx at *
        cases bx
        · have HF0 := Go.Lib.hid (show rv = false by rw [HV.out]; exact allB_false (n := j + 1) HNX.out HLT.out)
          go_wp2_with fail
          refine HCY.out.mono ?_
          rintro e w4 ⟨rfl, rfl⟩
          go_wp2_with fail
          go_ret
          exact ⟨by rw [HF0.out]; rfl, HB2.out⟩
        · go_wp2_with fail
          refine HCY.out.mono ?_
          rintro e w4 ⟨rfl, rfl⟩
          go_wp2_with fail
          go_roundg (gk - 1)
          case measure => have := hj.out; have := HLT.out; omega
          case rel => exact ⟨j + 1, Go.Lib.hid (by have := hj.out; have := HLT.out; omega), by go_num, HNX, rfl⟩

      have d2 : decide ((fi.length : Int) + (inn : Int) ≤ (j : Int)) = false := decide_eq_false (by omega)
      have hlt1 : lt fi la be inn j = be := by unfold lt; rw [if_neg t1, if_neg t2]
      have HCY := Go.Lib.hid (show Calls Try.prog nf (#[.int .i64 y] ++ caps) (w2.alloc (.cells #[.slice A1 fi.length c1, .slice A2 la.length c2, .func (.func nf) #[] caps, .int .i64 le] 44)) (fun e w' => e = .returned (.bool (inK (lt fi la be inn j) y)) ∧ w' = w2.alloc (.cells #[.slice A1 fi.length c1, .slice A2 la.length c2, .func (.func nf) #[] caps, .int .i64 le] 44)) by
        rw [hlt1]; exact HCB.out _ HW2.out y)
      clear hlt1 t1 t2
      generalize inK (lt fi la be inn j) y = bx at *
      cases bx
      · have HF0 := Go.Lib.hid (show rv = false by rw [HV.out]; exact allB_false (n := j + 1) HNX.out HLT.out)
        go_wp2_with fail
        refine HCY.out.mono ?_
        rintro e w4 ⟨rfl, rfl⟩
        go_wp2_with fail
        go_ret
        exact ⟨by rw [HF0.out]; rfl, HB2.out⟩
      · go_wp2_with fail
        refine HCY.out.mono ?_
        rintro e w4 ⟨rfl, rfl⟩
        go_wp2_with fail
        go_roundg (gk - 1)
        case measure => have := hj.out; have := HLT.out; omega
        case rel => exact ⟨j + 1, Go.Lib.hid (by have := hj.out; have := HLT.out; omega), by go_num, HNX, rfl⟩

    · have hd : decide ((j : Int) < (l.length : Int)) = false := decide_eq_false (by omega)
      have hd2 : decide (j < l.length) = false := decide_eq_false hlt
      have hd3 : ¬ (j : Int) < (l.length : Int) := by omega
      have HV2 := Go.Lib.hid (show rv = true by rw [HV.out, show l.length = j by have := hj.out; omega]; exact hok.out)
      clear hlt
      go_wp2_with fail
      go_ret
      exact ⟨by rw [HV2.out]; rfl, HB2.out⟩
end Go.Proofs.Ytemdfhaceddmpaa.Tr
