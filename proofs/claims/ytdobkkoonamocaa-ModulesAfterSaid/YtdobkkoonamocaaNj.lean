import Derived.Test.YtdobkkoonamocaaNi
import Derived.Test.YtdobkkoonamocaaNg
import Derived.Test.YtdobkkoonamocaaNh
namespace Go.Proofs.Ytdobkkoonamocaa.Mo
open Go.RowKit Go.Proofs.Ytdobkkoonamocaa.PModulesOrdered Go.Proofs.YtdobkkoonamocaaW.PrintWords Go.Proofs.YtdobkkoonamocaaW.PrintLast Go.Proofs.YtdobkkoonamocaaW.PrintMore
set_option linter.unusedVariables false
/-- What After answers where all changed names are modules'. -/
theorem after_call (N C : List ByteArray) (I : List (List ByteArray)) (A0 A1 A2 : Option Addr) (c0 c1 c2 : Nat) (w : World) (hl : ∀ l ∈ I, l.length < LIM) (hC : C.length < 8796093021953) (hr0 : Kd.C Kd.string w A0 N.length N) (hc0 : N.length ≤ c0) (hr1 : Kd.C (Kd.slice 9 Kd.string) w A1 I.length I) (hc1 : I.length ≤ c1) (hr2 : Kd.C Kd.string w A2 C.length C) (hc2 : C.length ≤ c2) (he : mErr N I = 0) (hx : ∀ s ∈ C, hasB N s = true) :
    Calls Try.prog 11 #[.slice A0 N.length c0, .slice A1 I.length c1, .slice A2 C.length c2] w fun e w' => (∃ (out : List ByteArray) (A : Option Addr) (c : Nat), AfterOk N.length (nm N) (im I) (C.map ByteArray.toList) (out.map ByteArray.toList) ∧ e = .returned (.tuple #[.slice A (cs out).length c, .int .i64 0]) ∧ w'.ownsRow w.heap.size 9 1 (.slice A (cs out).length c) (cs out).length ((cs out).map encStr)) ∧ Below w.heap.size w w' := by
  obtain ⟨e1, e2, _, _⟩ := err_zero he
  refine (after_ok N C I A0 A1 A2 c0 c1 c2 w e1 e2 hl hC hr0 hc0 hr1 hc1 hr2 hc2 he).mono ?_
  rintro e w' ⟨h, hb⟩
  refine ⟨?_, hb⟩
  rcases h with ⟨⟨s, hs, hn⟩, _⟩ | ⟨_, h⟩
  · rw [hx s hs] at hn; cases hn
  · exact h
/-- After's answer is the list that the law gathers and sorts. -/
theorem cs_eq {N C : List ByteArray} {I : List (List ByteArray)} {M : Nat → Nat → Bool} {out : List ByteArray} (he : mErr N I = 0) (hM : MatOk N.length (nm N) (im I) M) (hc : ClM N.length N.length M) (h : AfterOk N.length (nm N) (im I) (C.map ByteArray.toList) (out.map ByteArray.toList)) : (dS (outB N C M N.length)).mergeSort leS = cs out := by
  rw [outB_full]
  exact (after_same (inj_of (err_zero he).2.2.1) hM hc h).symm
set_option maxHeartbeats 8000000 in
set_option maxRecDepth 100000 in
theorem lawA_some (N C : List ByteArray) (I : List (List ByteArray)) (A0 A1 A2 : Option Addr) (c0 c1 c2 : Nat) (w : World)
  (hl : ∀ l ∈ I, l.length < LIM) (hC : C.length < 8796093021953) (hr0 : Kd.C Kd.string w A0 N.length N) (hc0 : N.length ≤ c0) (hr1 : Kd.C (Kd.slice 9 Kd.string) w A1 I.length I) (hc1 : I.length ≤ c1) (hr2 : Kd.C Kd.string w A2 C.length C) (hc2 : C.length ≤ c2) (he : mErr N I = 0) (hx : ∀ s ∈ C, hasB N s = true) :
    Calls Try.prog 4 #[.slice A0 N.length c0, .slice A1 I.length c1, .slice A2 C.length c2] w fun e w' => e = .returned (.bool true) ∧ Below w.heap.size w w' := by
  obtain ⟨e1, e2, _, _⟩ := err_zero he
  have hNL : N.length < LIM := by unfold LIM; omega
  have h1 := Go.Lib.hid (fun (W : World) (hb : Below w.heap.size w W) => after_call N C I A0 A1 A2 c0 c1 c2 W hl hC (Kd.C_below hr0 hb) hc0 (Kd.C_below hr1 hb) hc1 (Kd.C_below hr2 hb) hc2 he hx)
  have h2 := Go.Lib.hid (fun (W : World) (hb : Below w.heap.size w W) => error_calls N I A0 A1 c0 c1 W hNL (by rw [e2]; exact hNL) hl (Kd.C_below hr0 hb) hc0 (Kd.C_below hr1 hb) hc1)
  have h3 := Go.Lib.hid (fun (W : World) (hb : Below w.heap.size w W) => reaches_full N I A0 A1 c0 c1 W e1 e2 hl (Kd.C_below hr0 hb) hc0 (Kd.C_below hr1 hb) hc1)
  rw [he] at h2
  have HE := Go.Lib.hid he
  have HR0 := Go.Lib.hid hr0
  have HR2 := Go.Lib.hid hr2
  have HX := Go.Lib.hid hx
  have HN := Go.Lib.hid hNL
  have hN16 := Go.Lib.hid e1
  have hn : (N.length : Int) ≤ 16 := by omega
  have hn0 : (0 : Int) ≤ (N.length : Int) := by omega
  have hC1 : (C.length : Int) < 8796093021953 := by omega
  have HCL := Go.Lib.hid (show C.length < LIM by unfold LIM; omega)
  have HC2 := Go.Lib.hid hc2
  have HC0 := Go.Lib.hid hc0
  clear hr0 hr2 hx hNL hl hr1 he e1 e2 hc0 hc1 hc2 hC
  go_enter Try.func4, Try.ntmps4
  go_wp2_with fail
  refine (first_after w).mono ?_
  rintro e w1 ⟨⟨A, c, rfl⟩, hb1⟩
  have HB1 := Go.Lib.hid hb1
  clear hb1
  go_wp2_with fail
  refine (h1.out w1 HB1.out).mono ?_
  rintro e w3 ⟨⟨out, A, c, hok, rfl, hown⟩, hb3⟩
  have HB3 := Go.Lib.hid (HB1.out.trans (hb3.mono HB1.out.size))
  have HOK := Go.Lib.hid hok
  have HO3 := Go.Lib.hid hown
  clear hb3 h1 hok hown
  go_wp2_with fail
  refine (h2.out w3 HB3.out).mono ?_
  rintro e w4 ⟨rfl, hb4⟩
  have HB4 := Go.Lib.hid (HB3.out.trans (hb4.mono HB3.out.size))
  have HO4 := Go.Lib.hid (pw_own_below HO3.out hb4)
  clear hb4 h2 HO3
  go_wp2_with fail
  obtain ⟨w40, hw40⟩ : ∃ w40, w40 = w4 := ⟨_, rfl⟩
  go_loopg [56] C.length (fun k v56 wr => ∃ i : Nat, Hid (i + k = C.length) ∧ v56 = .int .i64 i ∧ Hid (Below w40.heap.size w40 wr))
  case atStart => exact ⟨0, Go.Lib.hid (by omega), rfl, Go.Lib.hid (by rw [hw40]; exact Below.refl _ _)⟩
  case round =>
    obtain ⟨i, hi, rfl, hbz⟩ := hrel
    have hb := Go.Lib.hid (show Below w.heap.size w wr from HB4.out.trans (by rw [← hw40]; exact hbz.out.mono (by rw [hw40]; exact HB4.out.size)))
    by_cases hlt : i < C.length
    · have hlt' : (i : Int) < (C.length : Int) := by omega
      obtain ⟨ad, rfl, x0⟩ := at_S (Kd.C_below HR2.out hb.out) hlt
      have hcon := Go.Lib.hid (contains_calls N (sx C (i : Int)) A0 c0 wr HN.out (Kd.C_below HR0.out hb.out) HC0.out)
      have hh : hasB N (sx C (i : Int)) = true := HX.out _ (by rw [sx_get hlt]; exact List.getElem_mem _)
      rw [hh] at hcon
      generalize sx C (i : Int) = s at *
      have HLT := Go.Lib.hid hlt
      clear hlt hh
      go_wp2_with fail
      refine hcon.out.mono ?_
      rintro e w5 ⟨rfl, hd5⟩
      have HB5 := Go.Lib.hid (hbz.out.trans (hd5.below.mono hbz.out.size))
      clear hd5 hcon x0
      go_wp2_with fail
      go_roundg (gk - 1)
      case measure => have := hi.out; have := HLT.out; omega
      case rel => exact ⟨i + 1, Go.Lib.hid (by have := hi.out; have := HLT.out; omega), by go_num, HB5⟩
    · have hlt' : ¬ (i : Int) < (C.length : Int) := by omega
      have HOr := Go.Lib.hid (pw_own_below (hw40 ▸ HO4.out) hbz.out)
      clear hlt hi hw40 hbz HO4 HX HB4
      go_wp2_with fail
      refine (h3.out wr hb.out).mono ?_
      rintro e wz ⟨⟨mb, rb, M, rfl, hM, hMat, hCl⟩, hbz⟩
      have hbw := hb.out.trans (hbz.mono hb.out.size)
      have KN := Go.Lib.hid (Kd.C_below HR0.out hbw)
      have KC := Go.Lib.hid (Kd.C_below HR2.out hbw)
      have HBZ := Go.Lib.hid hbw
      have HM := Go.Lib.hid hM
      have HOz := Go.Lib.hid (pw_own_below HOr.out hbz)
      have HEQ := Go.Lib.hid (cs_eq HE.out hMat hCl HOK.out)
      clear hbw hbz hM HOr hb h3 hMat hCl HOK HE
      go_wp2_with fail
      obtain ⟨wzz, hwz⟩ : ∃ wzz, wzz = wz := ⟨_, rfl⟩
      have HW := Go.Lib.hid hwz
      go_loopg [15, 77] N.length (fun k v15 v77 wr => ∃ (i : Nat) (A' : Option Addr) (c' : Nat), Hid (i + k = N.length) ∧ v77 = .int .i64 i ∧ v15 = .slice A' (outB N C M i).length c' ∧ Hid (wr.ownsRow wzz.heap.size 9 1 (.slice A' (outB N C M i).length c') (outB N C M i).length (encs Value.string (outB N C M i))) ∧ Hid (Below wzz.heap.size wzz wr))
      case atStart => exact ⟨0, none, 0, Go.Lib.hid (by omega), rfl, rfl, Go.Lib.hid (own_nil _ _ _ _), Go.Lib.hid (by rw [hwz]; exact Below.refl _ _)⟩
      case round =>
        clear hwz
        obtain ⟨i, A', c', hi, rfl, rfl, hO, hb⟩ := hrel
        have hsl := outB_len N C M i
        by_cases hlt : i < N.length
        · have hlt' : (i : Int) < (N.length : Int) := by omega
          have hz : ∀ {W}, Below wzz.heap.size wzz W → Below wz.heap.size wz W := fun h => by rw [← HW.out]; exact h
          obtain ⟨ad, rfl, x0⟩ := at_S (Kd.C_below KN.out (hz hb.out)) hlt
          have hcon := Go.Lib.hid (contains_calls C (sx N (i : Int)) A2 c2 wr HCL.out (Kd.C_below KC.out (hz hb.out)) HC2.out)
          rw [← isB_zero N C M i] at hcon
          have HS := Go.Lib.hid (outB_succ N C M i)
          have hdl : (outB N C M i).length < 17 := by have := hN16.out; omega
          generalize outB N C M i = so at *
          have hI0 := Go.Lib.hid (show isB N C M i 0 = isB N C M i 0 from rfl)
          generalize hs1 : sx N (i : Int) = s1 at *
          have HS1 := Go.Lib.hid hs1
          generalize hB0 : isB N C M i 0 = b0 at *
          have HB0 := Go.Lib.hid hB0
          have HLT := Go.Lib.hid hlt
          clear hlt hs1 hB0 hI0 hsl
          go_wp2_with fail
          refine hcon.out.mono ?_
          rintro e w5 ⟨rfl, hd5⟩
          have HB5 := Go.Lib.hid (hb.out.trans (hd5.below.mono hb.out.size))
          have HO5 := Go.Lib.hid (pw_own_below hO.out hd5.below)
          clear hd5 hcon hO hb x0
          go_wp2_with fail
          go_loopg [18, 87] N.length (fun k v18 v87 wr => ∃ (j : Nat) (b : Bool), Hid (j + k = N.length) ∧ v87 = .int .i64 j ∧ v18 = .bool b ∧ Hid (isB N C M i j = b) ∧ Hid (wr.ownsRow wzz.heap.size 9 1 (.slice A' so.length c') so.length (encs Value.string so)) ∧ Hid (Below wzz.heap.size wzz wr))
          case atStart => exact ⟨0, b0, Go.Lib.hid (by omega), rfl, rfl, HB0, HO5, HB5⟩
          case round =>
            clear HO5 HB5
            obtain ⟨j, b, hj, rfl, rfl, hB, hO, hb⟩ := hrel
            by_cases hlt2 : j < N.length
            · have hlt2' : (j : Int) < (N.length : Int) := by omega
              have hz : ∀ {W}, Below wzz.heap.size wzz W → Below wz.heap.size wz W := fun h => by rw [← HW.out]; exact h
              obtain ⟨ad2, had2, x0⟩ := at_S (Kd.C_below KN.out (hz hb.out)) hlt2
              obtain rfl := Option.some.inj had2
              have x1 := ((HM.out.below (hz hb.out)).row HLT.out HLT.out)
              have x2 := ((HM.out.below (hz hb.out)).at_ HLT.out hlt2)
              have hcon := Go.Lib.hid (contains_calls C (sx N (j : Int)) A2 c2 wr HCL.out (Kd.C_below KC.out (hz hb.out)) HC2.out)
              have hBs := Go.Lib.hid (isB_succ N C M i j)
              rw [hB.out] at hBs
              generalize sx N (j : Int) = s2 at *
              generalize M i j = m at x2 hBs
              generalize hasB C s2 = h2 at hcon hBs
              generalize rb i = rbi at x1 x2
              have HLT2 := Go.Lib.hid hlt2
              clear hlt2 had2 hB hz
              cases b
              · cases m
                · go_wp2_with fail
                  go_roundg (gk - 1)
                  case measure => have := hj.out; have := HLT2.out; omega
                  case rel => exact ⟨j + 1, false, Go.Lib.hid (by have := hj.out; have := HLT2.out; omega), by go_num, rfl, hBs, hO, hb⟩
                · go_wp2_with fail
                  refine hcon.out.mono ?_
                  rintro e w6 ⟨rfl, hd6⟩
                  have HB6 := Go.Lib.hid (hb.out.trans (hd6.below.mono hb.out.size))
                  have HO6 := Go.Lib.hid (pw_own_below hO.out hd6.below)
                  clear hd6 hcon hO hb x0 x1 x2
                  go_wp2_with fail
                  go_roundg (gk - 1)
                  case measure => have := hj.out; have := HLT2.out; omega
                  case rel => exact ⟨j + 1, h2, Go.Lib.hid (by have := hj.out; have := HLT2.out; omega), by go_num, rfl, hBs, HO6, HB6⟩
              · go_wp2_with fail
                go_roundg (gk - 1)
                case measure => have := hj.out; have := HLT2.out; omega
                case rel => exact ⟨j + 1, true, Go.Lib.hid (by have := hj.out; have := HLT2.out; omega), by go_num, rfl, hBs, hO, hb⟩
            · have hlt2' : ¬ (j : Int) < (N.length : Int) := by omega
              have hBn := Go.Lib.hid (show isB N C M i N.length = b by rw [show N.length = j by have := hj.out; omega]; exact hB.out)
              clear hlt2 hB
              rw [hBn.out] at HS
              cases b
              · go_wp2_with fail
                have HS2 := Go.Lib.hid (show so = outB N C M (i + 1) by rw [HS.out]; rfl)
                clear HS
                go_roundg (N.length - (i + 1))
                case measure => have := hi.out; have := HLT.out; omega
                case rel => exact ⟨i + 1, A', c', Go.Lib.hid (by have := hi.out; have := HLT.out; omega), by go_num, by rw [← HS2.out], by rw [← HS2.out]; exact hO, hb⟩
              · have HS2 := Go.Lib.hid (show so ++ [s1] = outB N C M (i + 1) by rw [HS.out]; rfl)
                have hbs := Go.Lib.hid hb.out.size
                clear HS
                go_wp2_with ((with_reducible refine gate_builtin (b := .append) (xs := #[.tmp 110, .tmp 112]) rfl ?_); at_builtin; refine print_append_of (w0 := wzz) Value.string wzz.heap.size rfl (.tmp 110) (.tmp 112) 22 9 (.string ⟨#[]⟩) 16 rfl Try.underlying22 info9 rfl (by decide) (.slice A' so.length c') so s1 rfl (by first | rfl | (go_simp; done) | (go_simp; rfl)) rfl ?q1 ?q2 ?q3 ?q4 ?_; (case q1 => exact hO.out); (case q2 => exact hb.out); (case q3 => exact hbs.out); (case q4 => omega); intro v1 w9 ho9 hb9 hg9 hat9; obtain ⟨A9, c9, rfl⟩ := own_slice ho9; have HT9 := Go.Lib.hid ho9; have HB9 := Go.Lib.hid hb9; clear ho9 hb9 hg9 hat9)
                have HSL := Go.Lib.hid (show (so ++ [s1]).length = so.length + 1 by simp)
                go_roundg (N.length - (i + 1))
                case measure => have := hi.out; have := HLT.out; omega
                case rel => exact ⟨i + 1, A9, c9, Go.Lib.hid (by have := hi.out; have := HLT.out; omega), by go_num, by rw [← HS2.out]; first | rfl | rw [HSL.out], by rw [← HS2.out]; exact HT9, HB9⟩
        · have hlt' : ¬ (i : Int) < (N.length : Int) := by omega
          obtain rfl : i = N.length := by have := hi.out; omega
          have HBw := Go.Lib.hid (show Below w.heap.size w wr from HBZ.out.trans (by rw [← HW.out]; exact hb.out.mono (by rw [HW.out]; exact HBZ.out.size)))
          have HB8 := Go.Lib.hid hb.out
          have HBM := Go.Lib.hid (show w.heap.size ≤ wz.heap.size from HBZ.out.size)
          have hS := Go.Lib.hid (sort_dn hO.out (by have := hN16.out; omega) hb.out.size)
          have hSS : ((dS (outB N C M N.length)).mergeSort leS).length = (outB N C M N.length).length := by rw [List.length_mergeSort, dS_length]
          rw [HEQ.out] at hSS
          have hle : (cs out).length ≤ 9223372036854775807 := by have := hN16.out; omega
          rw [HEQ.out] at hS
          rw [← hSS] at hS
          have HLE := Go.Lib.hid hle
          rw [← hSS]
          clear hlt hi hO hb hsl hSS hle HBZ HEQ
          go_wp2_with fail
          refine hS.out.mono ?_
          rintro e w5 ⟨rfl, hown5, hgr5, hb5⟩
          have HOA := Go.Lib.hid (pw_own_below HOz.out (by rw [← HW.out]; exact HB8.out.trans hb5))
          have HBx := Go.Lib.hid (HBw.out.trans (hb5.mono (by rw [HW.out]; exact HBM.out)))
          have HEx := Go.Lib.hid (equal_own HOA.out hown5 HLE.out)
          clear hown5 hgr5 hb5 HOz HB8 hS HBw
          go_wp2_with fail
          refine HEx.out.mono ?_
          rintro e w6 ⟨rfl, hd6⟩
          have HB9 := Go.Lib.hid (HBx.out.trans (hd6.below.mono HBx.out.size))
          clear hd6 HEx HBx
          go_wp2_with fail
          go_ret
          exact ⟨rfl, HB9.out⟩
theorem lawA_calls (N C : List ByteArray) (I : List (List ByteArray)) (A0 A1 A2 : Option Addr) (c0 c1 c2 : Nat) (w : World) (hC : C.length < 8796093021953) (hr0 : Kd.C Kd.string w A0 N.length N) (hc0 : N.length ≤ c0) (hr1 : Kd.C (Kd.slice 9 Kd.string) w A1 I.length I) (hc1 : I.length ≤ c1) (hr2 : Kd.C Kd.string w A2 C.length C) (hc2 : C.length ≤ c2) :
    Calls Try.prog 4 #[.slice A0 N.length c0, .slice A1 I.length c1, .slice A2 C.length c2] w fun e w' => e = .returned (.bool true) ∧ Below w.heap.size w w' := by
  have hN : N.length < LIM := by have := hr0.2.1; unfold LIM; omega
  have hI : I.length < LIM := by have := hr1.2.1; unfold LIM; omega
  have hl : ∀ l ∈ I, l.length < LIM := by
    intro l hl
    obtain ⟨i, hi, rfl⟩ := List.mem_iff_getElem.1 hl
    obtain ⟨_, A, c, _, _, _, hC⟩ := at_L1 hr1 (i : Int) (by omega) (by omega)
    rw [rd_L1_get hi] at hC
    have := hC.2.1
    unfold LIM; omega
  by_cases he : mErr N I = 0
  · obtain ⟨e1, e2, _, _⟩ := err_zero he
    by_cases hx : ∀ s ∈ C, hasB N s = true
    · exact lawA_some N C I A0 A1 A2 c0 c1 c2 w hl hC hr0 hc0 hr1 hc1 hr2 hc2 he hx
    · obtain ⟨s, hs⟩ := Classical.not_forall.1 hx
      obtain ⟨hs, hf⟩ := Classical.not_imp.1 hs
      have hx' : ∃ s ∈ C, hasB N s = false := ⟨s, hs, by simpa using hf⟩
      refine lawA_name N C I A0 A1 A2 c0 c1 c2 w hN hC hr0 hc0 hr2 hx' (Go.Lib.hid fun W hb => ?_) (Go.Lib.hid fun W hb => ?_)
      · refine (after_ok N C I A0 A1 A2 c0 c1 c2 W e1 e2 hl hC (Kd.C_below hr0 hb) hc0 (Kd.C_below hr1 hb) hc1 (Kd.C_below hr2 hb) hc2 he).mono ?_
        rintro e w' ⟨h, hb'⟩
        refine ⟨?_, hb'⟩
        rcases h with ⟨_, rfl⟩ | ⟨h, _⟩
        · rfl
        · obtain ⟨s, hs, hf⟩ := hx'
          rw [h s hs] at hf; cases hf
      · have h := error_calls N I A0 A1 c0 c1 W hN hI hl (Kd.C_below hr0 hb) hc0 (Kd.C_below hr1 hb) hc1
        rw [he] at h
        exact h
  · exact lawA_err N C I A0 A1 A2 c0 c1 c2 w hN hI hl hr0 hc0 hr1 hc1 he
end Go.Proofs.Ytdobkkoonamocaa.Mo
