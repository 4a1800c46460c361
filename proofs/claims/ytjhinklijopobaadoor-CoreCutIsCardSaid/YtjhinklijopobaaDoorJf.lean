import Derived.Test.YtjhinklijopobaaDoorJc
import Derived.Test.YtjhinklijopobaaDoorJe
namespace Go.Proofs.YtjhinklijopobaaDoor.Co
open Go.RowKit Go.Proofs.YtjhinklijopobaaDoor.PCoreChecks Go.Proofs.YtjhinklijopobaaDoorW.PrintWords Go.Proofs.YtjhinklijopobaaDoorW.PrintLast Go.Proofs.YtjhinklijopobaaDoorW.PrintMore
set_option linter.unusedVariables false
set_option linter.unusedSimpArgs false

/-! ### The law CoreCutIs -/
theorem lst_small {t : List S28} (ht : treeB t = true) (hs : ∀ x ∈ t, Small x) : ∀ (m i b : Nat), i < t.length → ∀ x ∈ lst t m i b, Small x := by
  have hr := (treeB_parts ht).2.1
  intro m
  induction m with
  | zero => intro i b _ x hx; cases hx
  | succ m ih =>
    intro i b hi x hx
    rw [lst_succ t m i b hi, List.mem_append] at hx
    rcases hx with hx | hx
    · have key : ∀ j, j ≤ (t[i]'hi).f3.length → ∀ x ∈ (kfold (lst t m) b ((t[i]'hi).f3.take j)).1, Small x := by
        intro j
        induction j with
        | zero => intro _ x hx; exact absurd hx (by simp [kfold])
        | succ j ihj =>
          intro hj x hx
          have hj' : j < (t[i]'hi).f3.length := by omega
          have hm := badK_mem (rB_at hr i hi) (List.getElem_mem hj')
          rw [kfold_take _ _ _ j hj'] at hx
          unfold kstep at hx
          rcases List.mem_append.1 hx with hx | hx
          · exact ihj (by omega) x hx
          · exact ih _ _ (by omega) x hx
      have h1 := key _ (Nat.le_refl _)
      rw [List.take_length] at h1
      exact h1 x hx
    · rw [List.mem_singleton.1 hx]
      have h1 := hs _ (List.getElem_mem hi)
      refine ⟨h1.b, ?_, h1.a, h1.ab⟩
      have h2 := kfold_len2 (lst t m) b (t[i]'hi).f3
      have h3 := h1.k
      simp only
      omega
theorem cutL_ok {t : List S28} {k : Nat} (h : atE t (k : Int) = 0) : cutL t (k : Int) = lst t (k + 1) k 0 := by unfold cutL; rw [if_pos h, Int.toNat_natCast]
theorem cutL_bad {t : List S28} {n : Int} (h : atE t n ≠ 0) : cutL t n = [] := by unfold cutL; rw [if_neg h]
theorem oneW_cut : atE (oneW 1) 0 = 0 ∧ cutL (oneW 1) 0 = oneW 1 := by
  have h := atE_ok (n := 0) oneW_body (Int.le_refl _) (by decide)
  refine ⟨h, ?_⟩
  have h2 := cutL_ok (t := oneW 1) (k := 0) h
  rw [show ((0 : Nat) : Int) = 0 from rfl] at h2
  rw [h2]; exact oneW_lst 1
set_option maxHeartbeats 8000000 in
set_option maxRecDepth 100000 in
theorem law_coreCutIs (t : List S28) (A0 : Option Addr) (c0 : Nat) (n : Int) (w : World) (h : Ein w t A0 c0) (hT : Tab w) : Calls Tryd.prog 7 #[.slice A0 t.length c0, .int .i64 n] w (LwP w) := by
  have HCW := Go.Lib.hid (W_calls 1 w)
  obtain ⟨w1, hw1⟩ : ∃ w1, w1 = w.alloc (.cells #[.int .i64 1, .int .i64 1, .slice none 0 0, .slice none 0 0, .slice none 0 0, .slice none 0 0] 76) := ⟨_, rfl⟩
  have HB1 := Go.Lib.hid (show Below w.heap.size w w1 by rw [hw1]; exact below_alloc (Below.refl _ _) _)
  have HLC := Go.Lib.hid (list_calls (oneW 1) (fun _ => w.heap.size) 1 w1 (by rw [hw1]; exact oneW_rf 1 w) (oneW_tree 1) (by decide) 0 (by decide) (by decide))
  rw [← hw1] at HCW
  have HE := Go.Lib.hid h
  have HT := Go.Lib.hid hT
  have HOS := Go.Lib.hid oneW_cut
  clear h hT hw1
  go_enter Tryd.func7, Tryd.ntmps7
  go_wp2_with fail
  refine HCW.out.mono ?_
  rintro e w2 ⟨rfl, rfl⟩
  clear HCW
  go_wp2_with fail
  refine HLC.out.mono ?_
  rintro e w2 ⟨A, c, rfl, hl, hr, hb2⟩
  rw [oneW_lst] at hl hr ⊢
  have HB2 := Go.Lib.hid (below_step HB1.out hb2)
  have HS1 := Go.Lib.hid (cut_calls (oneW 1) 0 A c w2 (oneW_ein hl hr) (HT.out.below HB2.out))
  clear HLC hl hr hb2 HB1
  go_wp2_with fail
  refine HS1.out.mono ?_
  rintro e w3 ⟨A3, c3, rfl, -, -, hb3⟩
  have HB3 := Go.Lib.hid (below_step HB2.out hb3)
  rw [HOS.out.1, HOS.out.2, show (oneW 1).length = 1 from rfl]
  clear hb3 HS1 HB2
  have HS2 := Go.Lib.hid (cut_calls t n A0 c0 w3 (HE.out.below HB3.out) (HT.out.below HB3.out))
  go_wp2_with fail
  refine HS2.out.mono ?_
  rintro e w4 ⟨A4, c4, rfl, hl4, hr4, hb4⟩
  have HB4 := Go.Lib.hid (below_step HB3.out hb4)
  have HR4 := Go.Lib.hid hr4
  clear hb4 HS2 HB3 hl4 hr4
  have HFC := Go.Lib.hid (fault_calls t A0 c0 w4 (HE.out.below HB4.out))
  go_wp2_with fail
  refine HFC.out.mono ?_
  rintro e w5 ⟨rfl, hb5⟩
  have HB5 := Go.Lib.hid (below_step HB4.out hb5)
  have HR5 := Go.Lib.hid (Kd.C_below HR4.out hb5)
  have HV := Go.Lib.hid (show LwP w (.returned (.bool true)) w5 from ⟨rfl, HB5.out⟩)
  clear hb5 HFC HB4 HR4
  by_cases h0 : bodyErr t [] false = 0
  · rw [h0]
    by_cases h1 : n < 0
    · have ha := atE_none h0 (Or.inl h1)
      rw [cutL_bad (by rw [ha]; decide), ha, List.length_nil]
      have d1 : decide (n < 0) = true := decide_eq_true h1
      clear h1 ha h0 HR5
      go_wp2_with fail
      go_ret
      exact HV.out
    · have d1 : decide (n < 0) = false := decide_eq_false h1
      by_cases h2 : (t.length : Int) ≤ n
      · have ha := atE_none h0 (Or.inr h2)
        rw [cutL_bad (by rw [ha]; decide), ha, List.length_nil]
        have d2 : decide ((t.length : Int) ≤ n) = true := decide_eq_true h2
        clear h1 h2 ha h0 HR5
        go_wp2_with fail
        go_ret
        exact HV.out
      · have d2 : decide ((t.length : Int) ≤ n) = false := decide_eq_false h2
        have ha := atE_ok h0 (by omega) (show n < (t.length : Int) by omega)
        obtain ⟨hn, htr⟩ := body_zero h0
        obtain ⟨k, rfl⟩ : ∃ k : Nat, n = (k : Int) := ⟨n.toNat, by omega⟩
        have d3 : decide (t.length ≤ k) = false := decide_eq_false (by omega)
        rw [cutL_ok ha] at HR5 ⊢
        rw [ha]
        have HRG := Go.Lib.hid (rgrow_calls t htr hn (k + 1) (by omega) (by omega) A0 c0 w5 (HE.out.below HB5.out).hr)
        have HLS := Go.Lib.hid (fun W ps hT => list_calls t ps (k + 1) W hT htr hn k (by omega) (by omega))
        have HSL := Go.Lib.hid (fun A B c d W hA hB => sameL_calls (lst t (k + 1) k 0) (lst_small htr HE.out.small (k + 1) k 0 (by omega)) A B c d W hA hB (by
          have h1 := (lst_len htr (k + 1) k 0 (by omega) (by omega)).1
          have h2 := cn_le t.length (Bl t k)
          unfold cntB at h1
          omega))
        generalize lst t (k + 1) k 0 = L at HR5 HLS HSL
        obtain ⟨N, hN⟩ : ∃ N : Nat, N = k + 1 := ⟨_, rfl⟩
        have hN1 : (k : Int) + 1 = (N : Int) := by omega
        have hN3 : (N : Int) ≤ (c0 : Int) := by have := HE.out.hc; omega
        have hN0 : (0 : Int) ≤ (N : Int) := by omega
        have hN9 : (N : Int) ≤ 4097 := by omega
        have HNK := Go.Lib.hid (show N - 1 = k by omega)
        rw [← hN] at HRG HLS
        clear h1 h2 ha h0 hn htr HV hN
        go_wp2_with fail
        refine HRG.out.mono ?_
        rintro e w6 ⟨ps, rfl, hRf, hb6⟩
        have HB6 := Go.Lib.hid (below_step HB5.out hb6)
        have HR6 := Go.Lib.hid (Kd.C_below HR5.out hb6)
        have HL6 := Go.Lib.hid (HLS.out w6 ps hRf)
        rw [HNK.out]
        clear HRG hRf hb6 HLS HR5 HB5
        go_wp2_with fail
        refine HL6.out.mono ?_
        rintro e w7 ⟨A7, c7, rfl, hl7, hr7, hb7⟩
        have HB7 := Go.Lib.hid (below_step HB6.out hb7)
        have HS7 := Go.Lib.hid (HSL.out A4 A7 c4 c7 w7 (Kd.C_below HR6.out hb7) hr7)
        clear HL6 hl7 hr7 hb7 HR6 HB6 HSL
        go_wp2_with fail
        refine HS7.out.mono ?_
        rintro e w8 ⟨rfl, hb8⟩
        have HV := Go.Lib.hid (show LwP w (.returned (.bool true)) w8 from ⟨rfl, below_step HB7.out hb8⟩)
        clear HS7 hb8
        go_wp2_with fail
        go_ret
        exact HV.out
  · have b1 : (bodyErr t [] false == 0) = false := beq_eq_false_iff_ne.2 h0
    have b2 : (bodyErr t [] false != 0) = true := by rw [bne, b1]; rfl
    have ha := atE_bad (n := n) h0
    rw [cutL_bad (by rw [ha]; exact h0), ha, List.length_nil]
    have hq : (bodyErr t [] false == bodyErr t [] false) = true := beq_self_eq_true _
    clear h0 ha HR5
    go_wp2_with fail
    go_ret
    exact HV.out
end Go.Proofs.YtjhinklijopobaaDoor.Co
