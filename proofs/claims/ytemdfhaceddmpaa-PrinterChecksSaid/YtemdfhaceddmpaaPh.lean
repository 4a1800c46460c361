import Derived.Test.YtemdfhaceddmpaaPg
namespace Go.Proofs.Ytemdfhaceddmpaa.Tr
open Go.Shelf Go.RowKit Go.Proofs.Ytemdfhaceddmpaa.PPrinterTells Go.Proofs.YtemdfhaceddmpaaW.PrintWords Go.Proofs.YtemdfhaceddmpaaW.PrintLast Go.Proofs.YtemdfhaceddmpaaW.PrintMore
set_option linter.unusedVariables false
set_option linter.unusedSimpArgs false
theorem q40 (w : World) (a : Option Addr) (n c n' c' : Nat) : (binOp .neq 40 (.slice a n c) (.slice none n' c')).run Try.prog w = .ok (.bool (!a.isNone)) w := run_neq_slice_nil_any w _ _ a n c n' c' Try.underlying40

set_option maxHeartbeats 4000000 in
set_option maxRecDepth 100000 in
/-- fits at the sequence's kind. -/
theorem fits_24 (l : List Int) (A : Option Addr) (c : Nat) (w : World) (hr : Kd.C (Kd.int .i64) w A l.length l) (hl : l.length ≤ 17592186044416) :
    Calls Try.prog 9 #[.int .i64 24, .slice A l.length c] w fun e w' => e = .returned (.bool (shpB 24 l)) ∧ Below w.heap.size w w' := by
  obtain ⟨rv, hrv⟩ : ∃ rv, rv = shpB 24 l := ⟨_, rfl⟩
  rw [← hrv]
  have HRV := Go.Lib.hid (show rv = (decide (2 < l.length) && decide (l.length % 2 = 1) && altP l) by rw [hrv]; rfl)
  have HR := Go.Lib.hid hr
  have HL := Go.Lib.hid hl
  have hl9 : (l.length : Int) ≤ 17592186044416 := by omega
  clear hrv hr hl
  go_enter Try.func9, Try.ntmps9
  go_wp2_with fail
  go_loopg [18] l.length (fun g_ v18 w' => ∃ j : Nat, Hid (j + g_ = l.length) ∧ v18 = .int .i64 j ∧ Hid (altP (l.take j) = true) ∧ w' = w)
  case atStart => exact ⟨0, Go.Lib.hid (by omega), rfl, Go.Lib.hid rfl, rfl⟩
  case round =>
    obtain ⟨j, hj, rfl, hok, rfl⟩ := hrel
    by_cases hlt : j < l.length
    · have hlt' : (j : Int) < (l.length : Int) := by omega
      have hj0 : (0 : Int) ≤ (j : Int) := by omega
      obtain ⟨adl, e_, q0⟩ := Kd.at_int HR.out (j : Int) hj0 hlt'
      subst e_
      rw [rd_nat _ j hlt, Int.toNat_natCast] at q0
      have HTK := Go.Lib.hid (show altP (l.take (j + 1)) = altAt j l[j] by
        rw [List.take_succ_eq_append_getElem hlt, altP_snoc, List.length_take, Nat.min_eq_left (Nat.le_of_lt hlt), hok.out]; rfl)
      have HAL := Go.Lib.hid (show altP l = true → altP (l.take (j + 1)) = true from fun h => by
        unfold altP at h ⊢
        rw [List.all_eq_true] at h ⊢
        intro p hp
        refine h p ?_
        have e : l.take (j + 1) ++ l.drop (j + 1) = l := List.take_append_drop _ _
        rw [← e, List.zipIdx_append]
        exact List.mem_append_left _ hp)
      have HLT := Go.Lib.hid hlt
      generalize l[j] = y at q0 HTK
      clear hlt
      have HIE := Go.Lib.hid (isExpr_calls y wr)
      by_cases hj2 : j % 2 = 1
      · have m1 : ((j : Int) % 2 == 1) = true := beq_iff_eq.2 (by omega)
        have m2 : ((j : Int) % 2 == 0) = false := beq_eq_false_iff_ne.2 (by omega)
        obtain ⟨bx, hbx⟩ : ∃ bx, bx = decide (y = 3) := ⟨_, rfl⟩
        have m3 : (y != 3) = !bx := by rw [hbx]; rfl
        have HX := Go.Lib.hid (show altP (l.take (j + 1)) = bx by rw [HTK.out, altAt, if_pos hj2, hbx])
        clear hbx hj2
        cases bx
        · have HV := Go.Lib.hid (show rv = false by
            rw [HRV.out]
            cases h : altP l with
            | false => simp
            | true => have h2 := HAL.out h; rw [HX.out] at h2; cases h2)
          go_wp2_with fail
          go_ret
          exact ⟨by rw [HV.out]; rfl, Below.refl _ _⟩
        · go_wp2_with fail
          go_roundg (gk - 1)
          case measure => have := hj.out; have := HLT.out; omega
          case rel => exact ⟨j + 1, Go.Lib.hid (by have := hj.out; have := HLT.out; omega), by go_num, HX, rfl⟩
      · have m1 : ((j : Int) % 2 == 1) = false := beq_eq_false_iff_ne.2 (by omega)
        have m2 : ((j : Int) % 2 == 0) = true := beq_iff_eq.2 (by omega)
        have HX := Go.Lib.hid (show altP (l.take (j + 1)) = decide (y ∈ kinds 69) by rw [HTK.out, altAt, if_neg hj2])
        clear hj2
        generalize decide (y ∈ kinds 69) = bx at *
        cases bx
        · have HV := Go.Lib.hid (show rv = false by
            rw [HRV.out]
            cases h : altP l with
            | false => simp
            | true => have h2 := HAL.out h; rw [HX.out] at h2; cases h2)
          go_wp2_with (go_at_call 15; refine HIE.out.mono ?_; rintro e w3 ⟨rfl, rfl⟩)
          go_ret
          exact ⟨by rw [HV.out]; rfl, Below.refl _ _⟩
        · go_wp2_with (go_at_call 15; refine HIE.out.mono ?_; rintro e w3 ⟨rfl, rfl⟩)
          go_roundg (gk - 1)
          case measure => have := hj.out; have := HLT.out; omega
          case rel => exact ⟨j + 1, Go.Lib.hid (by have := hj.out; have := HLT.out; omega), by go_num, HX, rfl⟩
    · have hd : decide ((j : Int) < (l.length : Int)) = false := decide_eq_false (by omega)
      have hd2 : decide (j < l.length) = false := decide_eq_false hlt
      have hd3 : ¬ (j : Int) < (l.length : Int) := by omega
      have HA := Go.Lib.hid (show altP l = true by have h := hok.out; rw [List.take_of_length_le (by omega)] at h; exact h)
      obtain ⟨e1, he1⟩ : ∃ e1, e1 = decide (2 < l.length) := ⟨_, rfl⟩
      obtain ⟨e2, he2⟩ : ∃ e2, e2 = decide (l.length % 2 = 1) := ⟨_, rfl⟩
      have k6 : ((l.length : Int) % 2 == 1) = e2 := by rw [he2]; exact decide_eq_decide.2 (by omega)
      have k7 : decide ((3 : Int) ≤ (l.length : Int)) = e1 := by rw [he1]; exact decide_eq_decide.2 (by omega)
      have k8 : decide (3 ≤ l.length) = e1 := by rw [he1]; exact decide_eq_decide.2 (by omega)
      have HV := Go.Lib.hid (show rv = (e1 && e2) by rw [HRV.out, HA.out, ← he1, ← he2]; simp)
      clear hlt he1 he2
      cases e1
      all_goals
        go_wp2_with fail
        go_ret
        exact ⟨by rw [HV.out]; rfl, Below.refl _ _⟩

/-- fits at a kind with groups. -/
theorem fits_grp (k : Int) (l : List Int) (A : Option Addr) (c : Nat) (w : World) (hk : k ∈ ([5, 9, 10, 17, 18] : List Int)) (hr : Kd.C (Kd.int .i64) w A l.length l) (hl : l.length ≤ 17592186044416) :
    Calls Try.prog 9 #[.int .i64 k, .slice A l.length c] w fun e w' => e = .returned (.bool (shpB k l)) ∧ Below w.heap.size w w' := by
  obtain ⟨its, -, hne, -, -, -, hgc⟩ := groups k hk
  have HG := Go.Lib.hid (hgc w)
  have k24 : (k == 24) = false := beq_eq_false_iff_ne.2 (by simp only [List.mem_cons, List.not_mem_nil, or_false] at hk; omega)
  have HGR := Go.Lib.hid (fun w2 (hb : Below w.heap.size w w2) => grouped_calls k l A c w2 hk (Kd.C_below hr hb) hl)
  generalize shpB k l = rv at *
  clear hgc hr hl hk hne
  go_enter Try.func9, Try.ntmps9
  go_wp2_with fail
  refine HG.out.mono ?_
  rintro e w1 ⟨A1, c1, g, c2, rfl, hA1, -, -, hb1⟩
  obtain ⟨ad1, rfl⟩ := Option.isSome_iff_exists.1 hA1
  have HGS := Go.Lib.hid (HGR.out w1 hb1)
  have HB := Go.Lib.hid hb1
  have hq := q40 w1 (some ad1) (lets its).length c1 0 0
  clear hA1 hb1 HG HGR
  go_wp2_with fail
  refine HGS.out.mono ?_
  rintro e w2 ⟨rfl, hb2⟩
  have HB2 := Go.Lib.hid (below_step HB.out hb2)
  clear hb2 HGS
  go_wp2_with fail
  go_ret
  exact ⟨rfl, HB2.out⟩
end Go.Proofs.Ytemdfhaceddmpaa.Tr
