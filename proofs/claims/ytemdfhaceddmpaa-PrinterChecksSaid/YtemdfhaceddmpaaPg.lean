import Derived.Test.YtemdfhaceddmpaaPd
import Derived.Deep.CutRange
import Derived.Deep.QuietTactic
import Derived.BigQuiet
import Derived.Lib.SliceRun
import Derived.WalkSpells
namespace Go.Proofs.Ytemdfhaceddmpaa.Tr
open Go.Shelf Go.RowKit Go.Proofs.Ytemdfhaceddmpaa.PPrinterTells Go.Proofs.YtemdfhaceddmpaaW.PrintWords Go.Proofs.YtemdfhaceddmpaaW.PrintLast Go.Proofs.YtemdfhaceddmpaaW.PrintMore
set_option linter.unusedVariables false
set_option linter.unusedSimpArgs false
theorem lets_len (its : List (UInt8 × UInt8)) : (lets its).length = its.length := List.length_map _
theorem leasts_len (its : List (UInt8 × UInt8)) : (leasts its).length = its.length := List.length_map _
theorem lets_at (its : List (UInt8 × UInt8)) (i : Nat) (h : i < its.length) : (lets its)[i]? = some (rd (lets its) i) ∧ rd (lets its) (i : Int) = ((its[i].1.toNat : Nat) : Int) := by
  have h2 : i < (lets its).length := by rw [lets_len]; exact h
  refine ⟨by rw [List.getElem?_eq_getElem h2, rd_nat _ _ h2], ?_⟩
  rw [rd_nat _ _ h2]; simp [lets]
theorem leasts_at (its : List (UInt8 × UInt8)) (i : Nat) (h : i < its.length) : (leasts its)[i]? = some (rd (leasts its) i) ∧ rd (leasts its) (i : Int) = if its[i].2 = 0 ∨ its[i].2 = 43 then 1 else 0 := by
  have h2 : i < (leasts its).length := by rw [leasts_len]; exact h
  refine ⟨by rw [List.getElem?_eq_getElem h2, rd_nat _ _ h2], ?_⟩
  rw [rd_nat _ _ h2]; simp [leasts]
/-- The test that ends the groups. -/
def cdB (k : Int) (its : List (UInt8 × UInt8)) (i n : Nat) : Bool := decide ((n : Int) < rd (leasts its) i) || (decide (1 < n) && mxB k i)
theorem G_step {k : Int} {its : List (UInt8 × UInt8)} {i : Nat} {l : List Int} (hi : i < its.length) (n a : Nat) (hm : ∀ p ∈ its, p.2 = 0 ∨ p.2 = 42 ∨ p.2 = 43 ∨ p.2 = 63) (hx : ∀ i (h : i < its.length), mxB k i = (decide (its[i].2 = 0) || decide (its[i].2 = 63))) (hn : n = cntK (rd (lets its) i) (l.drop a)) :
    G (its.drop i) (l.drop a) = (!cdB k its i n && G (its.drop (i + 1)) (l.drop (a + n))) := by
  rw [List.drop_eq_getElem_cons hi]
  have h1 : its[i] = (its[i].1, its[i].2) := rfl
  rw [h1, G, ← (lets_at its i hi).2, ← hn, List.drop_drop]
  congr 1
  unfold cdB
  rw [(leasts_at its i hi).2, hx i hi]
  rcases hm _ (List.getElem_mem hi) with h | h | h | h
  all_goals
    rw [h]
    simp [okM]
    try (rw [Bool.eq_iff_iff]; simp <;> omega)

set_option maxHeartbeats 8000000 in
set_option maxRecDepth 100000 in
theorem grouped_calls (k : Int) (l : List Int) (A : Option Addr) (c : Nat) (w : World) (hk : k ∈ ([5, 9, 10, 17, 18] : List Int)) (hr : Kd.C (Kd.int .i64) w A l.length l) (hl : l.length ≤ 17592186044416) :
    Calls Try.prog 17 #[.int .i64 k, .slice A l.length c] w fun e w' => e = .returned (.bool (shpB k l)) ∧ Below w.heap.size w w' := by
  obtain ⟨its, hi3, hne, hmk, hmx, hG, hgc⟩ := groups k hk
  obtain ⟨rv, hrv⟩ : ∃ rv, rv = shpB k l := ⟨_, rfl⟩
  rw [← hrv]
  have HRV := Go.Lib.hid (show rv = G its l by rw [hrv, hG])
  have HR := Go.Lib.hid hr
  have HL := Go.Lib.hid hl
  have HM3 := Go.Lib.hid hi3
  have HMK := Go.Lib.hid hmk
  have HMX := Go.Lib.hid hmx
  have HGC := Go.Lib.hid (hgc w)
  have hl9 : (l.length : Int) ≤ 17592186044416 := by omega
  have hk9 : (0 : Int) ≤ k := by simp only [List.mem_cons, List.not_mem_nil, or_false] at hk; omega
  have HNE := Go.Lib.hid hne
  have HLL := Go.Lib.hid (lets_len its)
  have hll3 : ((lets its).length : Int) ≤ 3 := by rw [lets_len]; omega
  clear hk hr hl hi3 hmk hmx hG hgc hrv hne
  go_enter Try.func17, Try.ntmps17
  go_wp2_with fail
  refine HGC.out.mono ?_
  rintro e w1 ⟨A1, c1, g, c2, rfl, -, hF, hI, hb1⟩
  obtain ⟨g1, rfl, hF2⟩ := hF (by intro e; have h := HLL.out; rw [e] at h; exact HNE.out (List.eq_nil_of_length_eq_zero h.symm))
  have HF := Go.Lib.hid hF2
  have HIA := Go.Lib.hid hI
  have HB := Go.Lib.hid hb1
  have HLS := Go.Lib.hid (leasts_len its)
  clear hF hF2 hI hb1 HGC
  go_wp2_with fail
  go_loopg [7, 17] (lets its).length (fun g_ v7 v17 w' => ∃ i a : Nat, Hid (i + g_ = (lets its).length) ∧ v17 = .int .i64 i ∧ v7 = .int .i64 a ∧ Hid (a ≤ l.length) ∧ Hid (rv = G (its.drop i) (l.drop a)) ∧ Hid (Below w1.heap.size w1 w' ∧ Below w.heap.size w w'))
  case atStart => exact ⟨0, 0, Go.Lib.hid (by omega), rfl, rfl, Go.Lib.hid (Nat.zero_le _), Go.Lib.hid (by rw [HRV.out]; rfl), Go.Lib.hid ⟨Below.refl _ _, HB.out⟩⟩
  case round =>
    obtain ⟨i, a, hi, rfl, rfl, hal, hgv, hbb⟩ := hrel
    obtain ⟨ga, hga⟩ : ∃ ga : Nat, ga = gk := ⟨_, rfl⟩
    subst hga
    obtain ⟨wo, hwo⟩ : ∃ wo : World, wo = wr := ⟨_, rfl⟩
    subst hwo
    by_cases hlt : i < (lets its).length
    · have hlt' : (i : Int) < ((lets its).length : Int) := by omega
      have HI := Go.Lib.hid (show i < its.length by rw [← HLL.out]; exact hlt)
      obtain ⟨hf1, hf2⟩ := lets_at its i HI.out
      clear hlt
      obtain ⟨f, hfc, nf, fn, caps, rfl, hfn, hfnm, hfb, hfcall⟩ := HF.out i _ hf1
      have he := fun (args : Array Value) (w : World) => enters_ (P := Try.prog) hfn hfnm hfb args w
      have HCALL := Go.Lib.hid (show ∀ W', Below w1.heap.size w1 W' → ∀ x : Int, Calls Try.prog nf (#[.int .i64 x] ++ caps) W' (fun e w' => e = .returned (.bool (inK (rd (lets its) i) x)) ∧ w' = W') from hfcall)
      have HFC := Go.Lib.hid (show w1.cell? ⟨g1, i, none⟩ = some (.func (.func nf) #[] caps) from hfc)
      have HMS := Go.Lib.hid (HIA.out.cell i (leasts_at its i HI.out).1)
      clear hf1 hf2 hfc hfn hfnm hfb hfcall
      go_wp2_with fail
      go_loopg [7, 9] (l.length - a) (fun g_ v7 v9 w' => ∃ n b : Nat, Hid (b + g_ = l.length) ∧ v9 = .int .i64 n ∧ v7 = .int .i64 b ∧ Hid (b = a + n ∧ n + cntK (rd (lets its) i) (l.drop b) = cntK (rd (lets its) i) (l.drop a)) ∧ Hid (Below w1.heap.size w1 w' ∧ Below w.heap.size w w'))
      case atStart => exact ⟨0, a, Go.Lib.hid (by have := hal.out; omega), rfl, rfl, Go.Lib.hid ⟨by omega, by omega⟩, hbb⟩
      case round =>
        clear hbb
        obtain ⟨n, b, hgb, rfl, rfl, hbn, hbb⟩ := hrel
        obtain ⟨gb, hgbb⟩ : ∃ gb : Nat, gb = gk := ⟨_, rfl⟩
        subst hgbb
        obtain ⟨wi, hwi⟩ : ∃ wi : World, wi = wr := ⟨_, rfl⟩
        subst hwi
        have hfc := pw_cell_below hbb.out.1 HFC.out
        have hbl : (b : Int) ≤ (l.length : Int) := by have := hgb.out; omega
        have HCW := Go.Lib.hid (fun (m : Nat) => HCALL.out (wi.drewN m) (pw_below_drewN hbb.out.1 m))
        have hms := pw_cell_below hbb.out.1 HMS.out
        have hi3 : (i : Int) ≤ 3 := by omega
        have hlm : (i : Int) < ((leasts its).length : Int) := by have := HLS.out; have := HI.out; omega
        have hap := Go.Lib.hid (show a + n ≤ l.length by have := hbn.out.1; have := hgb.out; omega)
        have HCD := Go.Lib.hid (show cdB k its i n = (decide ((n : Int) < rd (leasts its) i) || (decide (1 < n) && ((decide (k = 9) && decide (i = 0)) || (decide (k = 10) && decide (i = 0)) || (decide (17 ≤ k) && decide (i = 1))))) from rfl)
        have hn9 : (n : Int) ≤ 17592186044416 := by have := hap.out; omega
        have HBE := Go.Lib.hid hbn.out.1
        by_cases hlb : b < l.length
        · have hlb' : (b : Int) < (l.length : Int) := by omega
          have hb0 : (0 : Int) ≤ (b : Int) := by omega
          obtain ⟨adl, e_, q0⟩ := Kd.at_int (Kd.C_below HR.out hbb.out.2) (b : Int) hb0 hlb'
          subst e_
          rw [rd_nat _ b hlb, Int.toNat_natCast] at q0
          have HD := Go.Lib.hid (List.drop_eq_getElem_cons hlb)
          have HLB := Go.Lib.hid hlb
          generalize l[b] = y at q0 HD
          have HCY := Go.Lib.hid (fun m => HCW.out m y)
          have HCN := Go.Lib.hid (show cntK (rd (lets its) i) (l.drop b) = if inK (rd (lets its) i) y = true then cntK (rd (lets its) i) (l.drop (b + 1)) + 1 else 0 by rw [HD.out]; rfl)
          clear hlb HCW
          generalize inK (rd (lets its) i) y = bx at HCY HCN
          cases bx
          rotate_left
          · go_wp2_with fail
            go_quiet ((exact Calls.quiet_of_same (HCY.out _)))
            go_wp2_with fail
            go_roundg (gb - 1)
            case measure => have := hgb.out; have := HLB.out; omega
            case rel => exact ⟨n + 1, b + 1, Go.Lib.hid (by have := hgb.out; have := HLB.out; omega), by go_num, by go_num, Go.Lib.hid ⟨by have := hbn.out.1; omega, by have h1 := hbn.out.2; have h2 := HCN.out; simp at h2; omega⟩, Go.Lib.hid ⟨pw_below_drewN hbb.out.1 _, pw_below_drewN hbb.out.2 _⟩⟩
          · go_wp2_with fail
            go_quiet ((exact Calls.quiet_of_same (HCY.out _)))
            have hbd := Go.Lib.hid (show Below w1.heap.size w1 (wi.drewN nq) ∧ Below w.heap.size w (wi.drewN nq) from ⟨pw_below_drewN hbb.out.1 _, pw_below_drewN hbb.out.2 _⟩)
            have hmsd : (wi.drewN nq).cell? ⟨g, i, none⟩ = some (.int .i64 (rd (leasts its) i)) := hms
            generalize hwq : wi.drewN nq = wq at *
            clear hwq hms hfc
            obtain ⟨ltb, hltb⟩ : ∃ t, decide ((n : Int) < rd (leasts its) i) = t := ⟨_, rfl⟩
            obtain ⟨gtb, hgtb⟩ : ∃ t, decide (1 < n) = t := ⟨_, rfl⟩
            have hgt2 : decide ((1 : Int) < (n : Int)) = gtb := by rw [← hgtb]; exact decide_eq_decide.2 (by omega)
            obtain ⟨q9, h9⟩ : ∃ t, decide (k = 9) = t := ⟨_, rfl⟩
            obtain ⟨q10, h10⟩ : ∃ t, decide (k = 10) = t := ⟨_, rfl⟩
            obtain ⟨q17, h17⟩ : ∃ t, decide (17 ≤ k) = t := ⟨_, rfl⟩
            obtain ⟨i0, hi0⟩ : ∃ t, decide (i = 0) = t := ⟨_, rfl⟩
            obtain ⟨i1, hi1⟩ : ∃ t, decide (i = 1) = t := ⟨_, rfl⟩
            rw [hltb, hgtb, h9, h10, h17, hi0, hi1] at HCD
            have h9b : (k == 9) = q9 := h9
            have h10b : (k == 10) = q10 := h10
            have hi0b : ((i : Int) == 0) = i0 := by rw [← hi0]; exact decide_eq_decide.2 (by omega)
            have hi1b : ((i : Int) == 1) = i1 := by rw [← hi1]; exact decide_eq_decide.2 (by omega)
            clear h9 h10 hi0 hi1
            have HE := Go.Lib.hid (show n = cntK (rd (lets its) i) (l.drop a) from by (have h1 := hbn.out.2; have h2 := HCN.out; simp at h2; omega))
            go_upto_region 9 with fail
            go_cut [72] from 20 to 72 (fun s72 wx => s72 = .bool (cdB k its i n) ∧ wx = wq)
            case first => as_aux_lemma =>
              cases ltb
              rotate_left
              · have HZ := Go.Lib.hid (show cdB k its i n = true by rw [HCD.out]; rfl)
                go_wp2_with fail
                go_meet
                exact ⟨congrArg Value.bool HZ.out.symm, rfl⟩
              cases gtb
              · have HZ := Go.Lib.hid (show cdB k its i n = false by rw [HCD.out]; rfl)
                go_wp2_with fail
                go_meet
                exact ⟨congrArg Value.bool HZ.out.symm, rfl⟩
              cases q9
              all_goals cases q10
              all_goals cases q17
              all_goals cases i0
              all_goals cases i1
              all_goals
                have HZ := Go.Lib.hid (show cdB k its i n = _ from HCD.out)
                go_wp2_with fail
                go_meet
                exact ⟨congrArg Value.bool HZ.out.symm, rfl⟩
            case rest =>
              obtain ⟨rfl, rfl⟩ := hcut
              have HG := Go.Lib.hid (G_step HI.out n a HMK.out HMX.out HE.out)
              generalize cdB k its i n = cd at *
              cases cd
              · have HG2 := Go.Lib.hid (show rv = G (its.drop (i + 1)) (l.drop (a + n)) by rw [hgv.out, HG.out]; rfl)
                go_wp2_with fail
                go_roundg (ga - 1)
                case measure => have := hi.out; have := HI.out; omega
                case rel => exact ⟨i + 1, a + n, Go.Lib.hid (by have := hi.out; have := HI.out; omega), by go_num, by rw [HBE.out], Go.Lib.hid (by have := hap.out; omega), HG2, hbd⟩
              · have HV := Go.Lib.hid (show rv = false by rw [hgv.out, HG.out]; rfl)
                go_wp2_with fail
                go_ret
                exact ⟨by rw [HV.out]; rfl, hbd.out.2⟩
        · have d1 : decide ((b : Int) < (l.length : Int)) = false := decide_eq_false (by omega)
          have d2 : decide (b < l.length) = false := decide_eq_false hlb
          have HCN := Go.Lib.hid (show cntK (rd (lets its) i) (l.drop b) = 0 by rw [List.drop_of_length_le (by omega)]; rfl)
          clear hlb
          go_wp2_with fail
          go_quiet (fail)
          have hbd := Go.Lib.hid (show Below w1.heap.size w1 (wi.drewN nq) ∧ Below w.heap.size w (wi.drewN nq) from ⟨pw_below_drewN hbb.out.1 _, pw_below_drewN hbb.out.2 _⟩)
          have hmsd : (wi.drewN nq).cell? ⟨g, i, none⟩ = some (.int .i64 (rd (leasts its) i)) := hms
          generalize hwq : wi.drewN nq = wq at *
          clear hwq hms hfc
          obtain ⟨ltb, hltb⟩ : ∃ t, decide ((n : Int) < rd (leasts its) i) = t := ⟨_, rfl⟩
          obtain ⟨gtb, hgtb⟩ : ∃ t, decide (1 < n) = t := ⟨_, rfl⟩
          have hgt2 : decide ((1 : Int) < (n : Int)) = gtb := by rw [← hgtb]; exact decide_eq_decide.2 (by omega)
          obtain ⟨q9, h9⟩ : ∃ t, decide (k = 9) = t := ⟨_, rfl⟩
          obtain ⟨q10, h10⟩ : ∃ t, decide (k = 10) = t := ⟨_, rfl⟩
          obtain ⟨q17, h17⟩ : ∃ t, decide (17 ≤ k) = t := ⟨_, rfl⟩
          obtain ⟨i0, hi0⟩ : ∃ t, decide (i = 0) = t := ⟨_, rfl⟩
          obtain ⟨i1, hi1⟩ : ∃ t, decide (i = 1) = t := ⟨_, rfl⟩
          rw [hltb, hgtb, h9, h10, h17, hi0, hi1] at HCD
          have h9b : (k == 9) = q9 := h9
          have h10b : (k == 10) = q10 := h10
          have hi0b : ((i : Int) == 0) = i0 := by rw [← hi0]; exact decide_eq_decide.2 (by omega)
          have hi1b : ((i : Int) == 1) = i1 := by rw [← hi1]; exact decide_eq_decide.2 (by omega)
          clear h9 h10 hi0 hi1
          have HE := Go.Lib.hid (show n = cntK (rd (lets its) i) (l.drop a) from by (have h1 := hbn.out.2; have h2 := HCN.out; omega))
          go_upto_region 9 with fail
          go_cut [72] from 20 to 72 (fun s72 wx => s72 = .bool (cdB k its i n) ∧ wx = wq)
          case first => as_aux_lemma =>
            cases ltb
            rotate_left
            · have HZ := Go.Lib.hid (show cdB k its i n = true by rw [HCD.out]; rfl)
              go_wp2_with fail
              go_meet
              exact ⟨congrArg Value.bool HZ.out.symm, rfl⟩
            cases gtb
            · have HZ := Go.Lib.hid (show cdB k its i n = false by rw [HCD.out]; rfl)
              go_wp2_with fail
              go_meet
              exact ⟨congrArg Value.bool HZ.out.symm, rfl⟩
            cases q9
            all_goals cases q10
            all_goals cases q17
            all_goals cases i0
            all_goals cases i1
            all_goals
              have HZ := Go.Lib.hid (show cdB k its i n = _ from HCD.out)
              go_wp2_with fail
              go_meet
              exact ⟨congrArg Value.bool HZ.out.symm, rfl⟩
          case rest =>
            obtain ⟨rfl, rfl⟩ := hcut
            have HG := Go.Lib.hid (G_step HI.out n a HMK.out HMX.out HE.out)
            generalize cdB k its i n = cd at *
            cases cd
            · have HG2 := Go.Lib.hid (show rv = G (its.drop (i + 1)) (l.drop (a + n)) by rw [hgv.out, HG.out]; rfl)
              go_wp2_with fail
              go_roundg (ga - 1)
              case measure => have := hi.out; have := HI.out; omega
              case rel => exact ⟨i + 1, a + n, Go.Lib.hid (by have := hi.out; have := HI.out; omega), by go_num, by rw [HBE.out], Go.Lib.hid (by have := hap.out; omega), HG2, hbd⟩
            · have HV := Go.Lib.hid (show rv = false by rw [hgv.out, HG.out]; rfl)
              go_wp2_with fail
              go_ret
              exact ⟨by rw [HV.out]; rfl, hbd.out.2⟩
    · have hd : decide ((i : Int) < ((lets its).length : Int)) = false := decide_eq_false (by omega)
      have hd2 : decide (i < (lets its).length) = false := decide_eq_false hlt
      have hd3 : ¬ (i : Int) < ((lets its).length : Int) := by omega
      have hE : ((a : Int) == (l.length : Int)) = rv := by
        rw [hgv.out, List.drop_of_length_le (i := i) (by have := HLL.out; omega), G, Bool.eq_iff_iff, beq_iff_eq, List.isEmpty_iff, List.drop_eq_nil_iff]
        have := hal.out
        omega
      clear hlt
      go_wp2_with fail
      go_ret
      exact ⟨rfl, hbb.out.2⟩
end Go.Proofs.Ytemdfhaceddmpaa.Tr
