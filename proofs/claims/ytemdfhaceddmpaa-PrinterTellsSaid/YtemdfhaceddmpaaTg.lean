import Derived.Test.YtemdfhaceddmpaaTa
import Derived.BigQuiet
namespace Go.Proofs.Ytemdfhaceddmpaa.Tr
open Go.Shelf Go.RowKit Go.Proofs.Ytemdfhaceddmpaa.PPrinterTells Go.Proofs.YtemdfhaceddmpaaW.PrintWords Go.Proofs.YtemdfhaceddmpaaW.PrintLast Go.Proofs.YtemdfhaceddmpaaW.PrintMore
set_option linter.unusedVariables false
set_option linter.unusedSimpArgs false

theorem eq_of_take {a b : List Int} (hl : a.length = b.length) (h : a.take a.length = b.take a.length) : a = b := by
  rw [List.take_length, hl, List.take_length] at h; exact h
set_option maxHeartbeats 1000000 in
/-- slices.Equal on ints. -/
theorem equal_calls (a b : List Int) (A B : Option Addr) (c d : Nat) (w : World) (hA : Kd.C (Kd.int .i64) w A a.length a) (hB : Kd.C (Kd.int .i64) w B b.length b) (hl : a.length ≤ 4611686018427387904) :
    Calls Try.prog 14 #[.slice A a.length c, .slice B b.length d] w fun e w' => e = .returned (.bool (decide (a = b))) ∧ Below w.heap.size w w' := by
  have HA := Go.Lib.hid hA
  have HBB := Go.Lib.hid hB
  have HL := Go.Lib.hid hl
  clear hA hB hl
  by_cases hlen : a.length = b.length
  · have h1 : ((a.length : Int) != (b.length : Int)) = false := bne_eq_false_iff_eq.mpr (by omega)
    have h2 : (a.length != b.length) = false := bne_eq_false_iff_eq.mpr hlen
    have HE := Go.Lib.hid hlen
    clear hlen
    go_enter Try.func14, Try.ntmps14
    go_wp2_with fail
    go_loopg [13] a.length (fun g_ v13 w' => ∃ i : Nat, Hid (i + g_ = a.length) ∧ v13 = .int .i64 i ∧ Hid (a.take i = b.take i) ∧ Hid (Below w.heap.size w w'))
    case atStart => exact ⟨0, Go.Lib.hid (by omega), rfl, Go.Lib.hid (by simp), Go.Lib.hid (Below.refl _ _)⟩
    case round =>
      obtain ⟨i, hi, rfl, hn, hb⟩ := hrel
      clear h1 h2
      by_cases hlt : i < a.length
      · have hlt' : (i : Int) < (a.length : Int) := by omega
        have hi0 : (0 : Int) ≤ (i : Int) := by omega
        have hltb : i < b.length := by have := HE.out; omega
        have hltb' : (i : Int) < (b.length : Int) := by omega
        obtain ⟨ad, rfl, x0⟩ := Kd.at_int (Kd.C_below HA.out hb.out) (i : Int) hi0 hlt'
        obtain ⟨bd, rfl, y0⟩ := Kd.at_int (Kd.C_below HBB.out hb.out) (i : Int) hi0 hltb'
        rw [rd_nat a i hlt, Int.toNat_natCast] at x0
        rw [rd_nat b i hltb, Int.toNat_natCast] at y0
        have HT := Go.Lib.hid (List.take_succ_eq_append_getElem hlt)
        have HU := Go.Lib.hid (List.take_succ_eq_append_getElem hltb)
        have HG := Go.Lib.hid (show a = b → a[i] = b[i] by intro e; subst e; rfl)
        have HLT := Go.Lib.hid hlt
        have hl9 : (a.length : Int) ≤ 4611686018427387904 := by have := HL.out; omega
        generalize a[i] = x at x0 HT HG
        generalize b[i] = y at y0 HU HG
        clear hlt hltb
        by_cases hxy : x = y
        · have hd : (x != y) = false := bne_eq_false_iff_eq.mpr hxy
          have HXY := Go.Lib.hid hxy
          clear hxy
          go_wp2_with fail
          go_quiet (fail)
          go_wp2_with fail
          go_roundg (gk - 1)
          case measure => have := hi.out; have := HLT.out; omega
          case rel => exact ⟨i + 1, Go.Lib.hid (by have := hi.out; have := HLT.out; omega), by go_num, Go.Lib.hid (by rw [HT.out, HU.out, hn.out, HXY.out]), Go.Lib.hid (pw_below_drewN hb.out nq)⟩
        · have hd : (x != y) = true := bne_iff_ne.mpr hxy
          have HV := Go.Lib.hid (show decide (a = b) = false from decide_eq_false (fun e => hxy (HG.out e)))
          clear hxy
          go_wp2_with fail
          go_quiet (fail)
          go_wp2_with fail
          go_ret
          exact ⟨by rw [HV.out]; rfl, pw_below_drewN hb.out nq⟩
      · have hd : decide ((i : Int) < (a.length : Int)) = false := decide_eq_false (by omega)
        have hd2 : decide (i < a.length) = false := decide_eq_false hlt
        have hd3 : ¬ (i : Int) < (a.length : Int) := by omega
        have HV := Go.Lib.hid (show decide (a = b) = true from decide_eq_true (eq_of_take HE.out (by have h := hn.out; have h2 := hi.out; have h3 : i = a.length := by omega
                                                                                                     rw [h3] at h; exact h)))
        go_wp2_with fail
        go_ret
        exact ⟨by rw [HV.out]; rfl, hb.out⟩
  · have h1 : ((a.length : Int) != (b.length : Int)) = true := bne_iff_ne.mpr (by omega)
    have h2 : (a.length != b.length) = true := bne_iff_ne.mpr hlen
    have HV := Go.Lib.hid (show decide (a = b) = false from decide_eq_false (fun e => hlen (by rw [e])))
    clear hlen
    go_enter Try.func14, Try.ntmps14
    go_wp2_with fail
    go_ret
    exact ⟨by rw [HV.out]; rfl, Below.refl _ _⟩
end Go.Proofs.Ytemdfhaceddmpaa.Tr
