import Derived.Test.YtjhinklijopobaaDoorHc
namespace Go.Proofs.YtjhinklijopobaaDoor.Co
open Go.RowKit Go.Proofs.YtjhinklijopobaaDoor.PCoreChecks Go.Proofs.YtjhinklijopobaaDoorW.PrintWords Go.Proofs.YtjhinklijopobaaDoorW.PrintLast Go.Proofs.YtjhinklijopobaaDoorW.PrintMore
set_option linter.unusedVariables false
set_option linter.unusedSimpArgs false

/-! ### The law CoreFree -/
theorem one_row {l : List Int} (hs : l.Pairwise (· < ·)) (hm : ∀ z, z ∈ l ↔ z = 1) : l = [1] :=
  sorted_same hs (List.pairwise_singleton _ _) (fun z => by rw [hm z]; simp)
theorem no_row {l : List Int} {S : Int → Prop} (hm : ∀ z, z ∈ l ↔ S z) (h : ∀ z, ¬ S z) : l = [] := by
  rw [List.eq_nil_iff_forall_not_mem]
  intro z hz
  exact h z ((hm z).1 hz)
set_option maxHeartbeats 8000000 in
set_option maxRecDepth 100000 in
theorem law_coreFree (t : List S28) (A0 : Option Addr) (c0 : Nat) (n : Int) (w : World) (h : Ein w t A0 c0) (hT : Tab w) : Calls Tryd.prog 5 #[.slice A0 t.length c0, .int .i64 n] w (LwP w) := by
  obtain ⟨w1, hw1⟩ : ∃ w1, w1 = w.alloc (.cells #[.int .i64 1] 3) := ⟨_, rfl⟩
  have HCV := Go.Lib.hid (V_calls 1 w1)
  obtain ⟨w2, hw2⟩ : ∃ w2, w2 = w1.alloc (.cells #[.int .i64 0, .int .i64 1, .slice none 0 0, .slice none 0 0, .slice none 0 0, .slice none 0 0] 76) := ⟨_, rfl⟩
  rw [← hw2] at HCV
  obtain ⟨w3, hw3⟩ : ∃ w3, w3 = w2.alloc (.cells #[ptrV w1.heap.size] 32) := ⟨_, rfl⟩
  have HCB := Go.Lib.hid (B_calls 2 (some ⟨w.heap.size, 0, none⟩) 1 1 (some ⟨w2.heap.size, 0, none⟩) 1 1 w3)
  obtain ⟨w4, hw4⟩ : ∃ w4, w4 = w3.alloc (.cells #[.int .i64 2, .int .i64 0, .slice (some ⟨w.heap.size, 0, none⟩) 1 1, .slice none 0 0, .slice none 0 0, .slice (some ⟨w2.heap.size, 0, none⟩) 1 1] 76) := ⟨_, rfl⟩
  rw [← hw4] at HCB
  have s1 : w1.heap.size = w.heap.size + 1 := by rw [hw1]; simp
  have s2 : w2.heap.size = w.heap.size + 2 := by rw [hw2]; simp [s1]
  have s3 : w3.heap.size = w.heap.size + 3 := by rw [hw3]; simp [s2]
  have h4 : w4 = oneFw w := by
    unfold oneFw
    rw [hw4, hw3, hw2, s1]
    rw [show (w1.alloc (.cells #[.int .i64 0, .int .i64 1, .slice none 0 0, .slice none 0 0, .slice none 0 0, .slice none 0 0] 76)).heap.size = w.heap.size + 2 by simp [s1], hw1]
  have HB1 := Go.Lib.hid (show Below w.heap.size w w4 by rw [h4]; unfold oneFw; exact below_alloc (below_alloc (below_alloc (below_alloc (Below.refl _ _) _) _) _) _)
  have HLC := Go.Lib.hid (list_calls oneF _ 2 w4 (by rw [h4]; exact oneF_rf w) oneF_tree (by decide) 1 (by decide) (by decide))
  have e3 : (if 1 = 0 then w.heap.size + 1 else w.heap.size + 3) = w3.heap.size := by rw [s3]; rfl
  rw [show (ptrV (if 1 = 0 then w.heap.size + 1 else w.heap.size + 3)) = ptrV w3.heap.size by rw [e3]] at HLC
  have HE := Go.Lib.hid h
  have HT := Go.Lib.hid hT
  have HOS := Go.Lib.hid oneF_free
  have HW1 := Go.Lib.hid hw1
  have HW3 := Go.Lib.hid hw3
  clear h hT hw1 hw2 hw3 hw4 h4 s1 s2 s3 e3
  go_enter Tryd.func5, Tryd.ntmps5
  go_wp2_with fail
  rw [← HW1.out]
  refine HCV.out.mono ?_
  rintro e w2' ⟨rfl, rfl⟩
  clear HCV
  go_wp2_with fail
  rw [← HW3.out]
  refine HCB.out.mono ?_
  rintro e w4' ⟨rfl, rfl⟩
  clear HCB
  go_wp2_with fail
  refine HLC.out.mono ?_
  rintro e w5 ⟨A, c, rfl, hl, hr, hb5⟩
  rw [oneF_lst] at hl hr ⊢
  have HB5 := Go.Lib.hid (below_step HB1.out hb5)
  have HS1 := Go.Lib.hid (free_api oneF 0 A c w5 (oneF_ein hl hr) (HT.out.below HB5.out))
  clear HLC hl hr hb5 HB1 HW1 HW3
  go_wp2_with fail
  refine HS1.out.mono ?_
  rintro e w6 ⟨l, A6, c6, rfl, hs6, hm6, hC6, hA6, hb6⟩
  obtain rfl := one_row hs6 (fun z => (hm6 z).trans (HOS.out.2 z))
  have HB6 := Go.Lib.hid (below_step HB5.out hb6)
  rw [HOS.out.1]
  obtain ⟨w7, hw7⟩ : ∃ w7, w7 = w6.alloc (.cells #[.int .i64 1] 3) := ⟨_, rfl⟩
  have HB7 := Go.Lib.hid (show Below w.heap.size w w7 by rw [hw7]; exact below_alloc HB6.out _)
  have HEQ := Go.Lib.hid (eqI_calls [1] [1] A6 (some ⟨w6.heap.size, 0, none⟩) c6 1 w7 (by rw [hw7]; exact Kd.C_below hC6 (below_alloc (Below.refl _ _) _)) (by rw [hw7]; exact one_C (Kd.int .i64) (blk_new _ _) rfl rfl) hA6 (fun ad e => by cases e; exact ⟨_, rfl⟩))
  rw [decide_eq_true (rfl : ([1] : List Int) = [1])] at HEQ
  have HW7 := Go.Lib.hid hw7
  clear HS1 hs6 hm6 hC6 hA6 hb6 HB5 HB6 hw7
  go_wp2_with fail
  rw [← HW7.out]
  refine HEQ.out.mono ?_
  rintro e w8 ⟨rfl, hb8⟩
  have HB8 := Go.Lib.hid (below_step HB7.out hb8)
  clear HEQ hb8 HB7 HW7
  have HS2 := Go.Lib.hid (free_api t n A0 c0 w8 (HE.out.below HB8.out) (HT.out.below HB8.out))
  go_wp2_with fail
  refine HS2.out.mono ?_
  rintro e w9 ⟨l, A9, c9, rfl, hs9, hm9, hC9, hA9, hb9⟩
  have HB9 := Go.Lib.hid (below_step HB8.out hb9)
  have HS9 := Go.Lib.hid hs9
  have HM9 := Go.Lib.hid hm9
  have HC9 := Go.Lib.hid hC9
  have HA9 := Go.Lib.hid hA9
  clear hs9 hm9 hC9 hA9 hb9 HS2 HB8
  have HFC := Go.Lib.hid (fault_calls t A0 c0 w9 (HE.out.below HB9.out))
  go_wp2_with fail
  refine HFC.out.mono ?_
  rintro e w10 ⟨rfl, hb10⟩
  have HB10 := Go.Lib.hid (below_step HB9.out hb10)
  have HC10 := Go.Lib.hid (Kd.C_below HC9.out hb10)
  have HV := Go.Lib.hid (show LwP w (.returned (.bool true)) w10 from ⟨rfl, HB10.out⟩)
  clear hb10 HFC HB9
  by_cases h0 : bodyErr t [] false = 0
  · rw [h0]
    by_cases h1 : n < 0
    · have ha := atE_none h0 (Or.inl h1)
      obtain rfl := no_row HM9.out (fun z hz => by have := hz.1; omega)
      rw [ha]
      have d1 : decide (n < 0) = true := decide_eq_true h1
      clear h1 ha h0
      go_wp2_with fail
      go_ret
      exact HV.out
    · have d1 : decide (n < 0) = false := decide_eq_false h1
      by_cases h2 : (t.length : Int) ≤ n
      · have ha := atE_none h0 (Or.inr h2)
        obtain rfl := no_row HM9.out (fun z hz => by have := hz.1; omega)
        rw [ha]
        have d2 : decide ((t.length : Int) ≤ n) = true := decide_eq_true h2
        clear h1 h2 ha h0
        go_wp2_with fail
        go_ret
        exact HV.out
      · have d2 : decide ((t.length : Int) ≤ n) = false := decide_eq_false h2
        have ha := atE_ok h0 (by omega) (show n < (t.length : Int) by omega)
        obtain ⟨hn, htr, hok⟩ := body_oks h0
        obtain ⟨k, rfl⟩ : ∃ k : Nat, n = (k : Int) := ⟨n.toNat, by omega⟩
        have d3 : decide (t.length ≤ k) = false := decide_eq_false (by omega)
        rw [ha]
        have HRC := Go.Lib.hid (freeAt_calls t htr hn hok k (by omega) A0 c0 w10 (HE.out.below HB10.out).hr)
        have HME := Go.Lib.hid (show ∀ z, z ∈ l ↔ Fv t k z from fun z => (HM9.out z).trans ⟨fun h => h.2, fun h => ⟨ha, h⟩⟩)
        clear h1 h2 ha h0 hn htr hok HV
        go_wp2_with fail
        refine HRC.out.mono ?_
        rintro e w11 ⟨m, A11, c11, rfl, -, hA11, hs11, hm11, hC11, hb11⟩
        have hlm : l = m := sorted_same HS9.out hs11 (fun z => (HME.out z).trans (hm11 z).symm)
        have HEQ := Go.Lib.hid (eqI_calls l m A9 A11 c9 c11 w11 (Kd.C_below HC10.out hb11) hC11 HA9.out hA11)
        rw [decide_eq_true hlm] at HEQ
        have HB11 := Go.Lib.hid (below_step HB10.out hb11)
        clear hA11 hs11 hm11 hC11 hb11 HRC hlm
        go_wp2_with fail
        refine HEQ.out.mono ?_
        rintro e w12 ⟨rfl, hb12⟩
        have HV := Go.Lib.hid (show LwP w (.returned (.bool true)) w12 from ⟨rfl, below_step HB11.out hb12⟩)
        clear hb12 HEQ
        go_wp2_with fail
        go_ret
        exact HV.out
  · have b1 : (bodyErr t [] false == 0) = false := beq_eq_false_iff_ne.2 h0
    have b2 : (bodyErr t [] false != 0) = true := by rw [bne, b1]; rfl
    have ha := atE_bad (n := n) h0
    obtain rfl := no_row HM9.out (fun z hz => by have h1 := hz.1; rw [ha] at h1; exact h0 h1)
    rw [ha]
    have hq : (bodyErr t [] false == bodyErr t [] false) = true := beq_self_eq_true _
    clear h0 ha
    go_wp2_with fail
    go_ret
    exact HV.out
end Go.Proofs.YtjhinklijopobaaDoor.Co
