import Derived.Test.YtjhinklijopobaaDoorFf
import Derived.Test.YtjhinklijopobaaDoorGc
namespace Go.Proofs.YtjhinklijopobaaDoor.Co
open Go.RowKit Go.Proofs.YtjhinklijopobaaDoor.PCoreChecks Go.Proofs.YtjhinklijopobaaDoorW.PrintWords Go.Proofs.YtjhinklijopobaaDoorW.PrintLast Go.Proofs.YtjhinklijopobaaDoorW.PrintMore
set_option linter.unusedVariables false
set_option linter.unusedSimpArgs false

/-! ### core.Size -/
theorem atE_zero {t : List S28} {n : Int} (h : atE t n = 0) : bodyErr t [] false = 0 ∧ 0 ≤ n ∧ n < (t.length : Int) := by
  unfold atE at h
  by_cases h0 : bodyErr t [] false = 0
  · rw [if_pos h0] at h
    by_cases h1 : n < 0 ∨ (t.length : Int) ≤ n
    · rw [if_pos h1] at h; omega
    · exact ⟨h0, by omega, by omega⟩
  · rw [if_neg h0] at h; exact absurd h h0
theorem atE_ok {t : List S28} {n : Int} (h : bodyErr t [] false = 0) (h0 : 0 ≤ n) (h1 : n < (t.length : Int)) : atE t n = 0 := by
  unfold atE; rw [if_pos h, if_neg (by omega)]
theorem atE_none {t : List S28} {n : Int} (h : bodyErr t [] false = 0) (h0 : n < 0 ∨ (t.length : Int) ≤ n) : atE t n = 12 := by
  unfold atE; rw [if_pos h, if_pos h0]
theorem atE_bad {t : List S28} {n : Int} (h : bodyErr t [] false ≠ 0) : atE t n = bodyErr t [] false := by
  unfold atE; rw [if_neg h]
noncomputable def sizeN (t : List S28) (n : Int) : Int := if atE t n = 0 then ((cntB t n.toNat : Nat) : Int) else 0
def SizP (t : List S28) (n : Int) (w : World) (e : Ending) (w' : World) : Prop := e = .returned (.tuple #[.int .i64 (sizeN t n), .int .i64 (atE t n)]) ∧ Below w.heap.size w w'
theorem SizP.mk {t : List S28} {n : Int} {w w' : World} {a b : Int} (h : sizeN t n = a) (h2 : atE t n = b) (hb : Below w.heap.size w w') : SizP t n w (.returned (.tuple #[.int .i64 a, .int .i64 b])) w' := ⟨by rw [h, h2], hb⟩
set_option maxHeartbeats 4000000 in
set_option maxRecDepth 100000 in
theorem size_calls (t : List S28) (n : Int) (A0 : Option Addr) (c0 : Nat) (w : World) (h : Ein w t A0 c0) (hT : Tab w) : Calls Tryd.prog 14 #[.slice A0 t.length c0, .int .i64 n] w (SizP t n w) := by
  have HC := Go.Lib.hid (at_calls t n A0 c0 w h hT)
  have HE := Go.Lib.hid h
  clear h hT
  go_enter Tryd.func14, Tryd.ntmps14
  go_wp2_with fail
  refine HC.out.mono ?_
  rintro e w1 ⟨rfl, hb1⟩
  have HB := Go.Lib.hid hb1
  clear hb1 HC
  by_cases h0 : atE t n = 0
  · have b1 : (atE t n == 0) = true := beq_iff_eq.2 h0
    have b2 : (atE t n != 0) = false := by rw [bne, b1]; rfl
    obtain ⟨hz, h1, h2⟩ := atE_zero h0
    obtain ⟨hn, htr⟩ := body_zero hz
    obtain ⟨k, rfl⟩ : ∃ k : Nat, n = (k : Int) := ⟨n.toNat, by omega⟩
    have HBC := Go.Lib.hid (below_calls t htr hn k (by omega) A0 c0 HE.out.hc w1 (Kd.C_below HE.out.hr HB.out))
    have HCC := Go.Lib.hid (fun w0 ps hT => count_calls w0 t ps (k + 1) hT htr hn (k + 1) k (by omega) (by omega) (by omega) w0 (Below.refl _ _))
    have HS := Go.Lib.hid (show sizeN t (k : Int) = ((cntB t k : Nat) : Int) by unfold sizeN; rw [if_pos h0, Int.toNat_natCast])
    have HZ := Go.Lib.hid h0
    clear h0 h1 h2 hz hn htr
    go_wp2_with fail
    refine HBC.out.mono ?_
    rintro e w2 ⟨ps, rfl, hF, hb2⟩
    have HB2 := Go.Lib.hid (below_step HB.out hb2)
    have HC2 := Go.Lib.hid (HCC.out w2 ps hF)
    clear hF hb2 HBC HCC
    go_wp2_with fail
    refine HC2.out.mono ?_
    rintro e w3 ⟨rfl, rfl⟩
    have HV := Go.Lib.hid (SizP.mk HS.out HZ.out HB2.out)
    clear HC2
    go_wp2_with fail
    go_ret2
    exact HV.out
  · have b1 : (atE t n == 0) = false := beq_eq_false_iff_ne.2 h0
    have b2 : (atE t n != 0) = true := by rw [bne, b1]; rfl
    have HV := Go.Lib.hid (SizP.mk (show sizeN t n = 0 by unfold sizeN; rw [if_neg h0]) (rfl : atE t n = atE t n) HB.out)
    clear h0
    go_wp2_with fail
    go_ret2
    exact HV.out
theorem oneW_size : sizeN (oneW 1) 0 = 1 ∧ atE (oneW 1) 0 = 0 := by
  have h := atE_ok (n := 0) oneW_body (Int.le_refl _) (by decide)
  refine ⟨?_, h⟩
  unfold sizeN
  rw [if_pos h]
  have h2 := cntB_eq (oneW_tree 1) (i := 0) (by decide)
  have h3 := cntK_zero (oneW 1) 0
  have h4 : ((oneW 1)[0]'(by decide)).f3.length = 0 := rfl
  rw [h4, h3] at h2
  rw [show (0 : Int).toNat = 0 from rfl, h2]; rfl

set_option maxHeartbeats 8000000 in
set_option maxRecDepth 100000 in
theorem law_coreSizes (t : List S28) (A0 : Option Addr) (c0 : Nat) (n : Int) (w : World) (h : Ein w t A0 c0) (hT : Tab w) : Calls Tryd.prog 4 #[.slice A0 t.length c0, .int .i64 n] w (LwP w) := by
  have HCW := Go.Lib.hid (W_calls 1 w)
  obtain ⟨w1, hw1⟩ : ∃ w1, w1 = w.alloc (.cells #[.int .i64 1, .int .i64 1, .slice none 0 0, .slice none 0 0, .slice none 0 0, .slice none 0 0] 76) := ⟨_, rfl⟩
  have HB1 := Go.Lib.hid (show Below w.heap.size w w1 by rw [hw1]; exact below_alloc (Below.refl _ _) _)
  have HLC := Go.Lib.hid (list_calls (oneW 1) (fun _ => w.heap.size) 1 w1 (by rw [hw1]; exact oneW_rf 1 w) (oneW_tree 1) (by decide) 0 (by decide) (by decide))
  rw [← hw1] at HCW
  have HE := Go.Lib.hid h
  have HT := Go.Lib.hid hT
  have HOS := Go.Lib.hid oneW_size
  clear h hT hw1
  go_enter Tryd.func4, Tryd.ntmps4
  go_wp2_with fail
  refine HCW.out.mono ?_
  rintro e w2 ⟨rfl, rfl⟩
  clear HCW
  go_wp2_with fail
  refine HLC.out.mono ?_
  rintro e w2 ⟨A, c, rfl, hl, hr, hb2⟩
  rw [oneW_lst] at hl hr ⊢
  have HB2 := Go.Lib.hid (below_step HB1.out hb2)
  have HS1 := Go.Lib.hid (size_calls (oneW 1) 0 A c w2 (oneW_ein hl hr) (HT.out.below HB2.out))
  clear HLC hl hr hb2 HB1
  go_wp2_with fail
  refine HS1.out.mono ?_
  rintro e w3 ⟨rfl, hb3⟩
  have HB3 := Go.Lib.hid (below_step HB2.out hb3)
  rw [HOS.out.1, HOS.out.2]
  clear hb3 HS1 HB2
  have HS2 := Go.Lib.hid (size_calls t n A0 c0 w3 (HE.out.below HB3.out) (HT.out.below HB3.out))
  go_wp2_with fail
  refine HS2.out.mono ?_
  rintro e w4 ⟨rfl, hb4⟩
  have HB4 := Go.Lib.hid (below_step HB3.out hb4)
  clear hb4 HS2 HB3
  have HFC := Go.Lib.hid (fault_calls t A0 c0 w4 (HE.out.below HB4.out))
  go_wp2_with fail
  refine HFC.out.mono ?_
  rintro e w5 ⟨rfl, hb5⟩
  have HB5 := Go.Lib.hid (below_step HB4.out hb5)
  have HV := Go.Lib.hid (show LwP w (.returned (.bool true)) w5 from ⟨rfl, HB5.out⟩)
  clear hb5 HFC HB4
  by_cases h0 : bodyErr t [] false = 0
  · rw [h0]
    by_cases h1 : n < 0
    · have ha := atE_none h0 (Or.inl h1)
      have hs : sizeN t n = 0 := by unfold sizeN; rw [if_neg (by rw [ha]; decide)]
      rw [ha, hs]
      have d1 : decide (n < 0) = true := decide_eq_true h1
      clear h1 ha hs h0
      go_wp2_with fail
      go_ret
      exact HV.out
    · have d1 : decide (n < 0) = false := decide_eq_false h1
      by_cases h2 : (t.length : Int) ≤ n
      · have ha := atE_none h0 (Or.inr h2)
        have hs : sizeN t n = 0 := by unfold sizeN; rw [if_neg (by rw [ha]; decide)]
        rw [ha, hs]
        have d2 : decide ((t.length : Int) ≤ n) = true := decide_eq_true h2
        clear h1 h2 ha hs h0
        go_wp2_with fail
        go_ret
        exact HV.out
      · have d2 : decide ((t.length : Int) ≤ n) = false := decide_eq_false h2
        have ha := atE_ok h0 (by omega) (show n < (t.length : Int) by omega)
        obtain ⟨hn, htr⟩ := body_zero h0
        obtain ⟨k, rfl⟩ : ∃ k : Nat, n = (k : Int) := ⟨n.toNat, by omega⟩
        have hs : sizeN t (k : Int) = ((cntB t k : Nat) : Int) := by unfold sizeN; rw [if_pos ha, Int.toNat_natCast]
        rw [ha, hs]
        have HRC := Go.Lib.hid (rcount_calls t htr hn k (by omega) A0 c0 w5 (HE.out.below HB5.out).hr)
        have d3 : decide (t.length ≤ k) = false := decide_eq_false (by omega)
        generalize ((cntB t k : Nat) : Int) = z at HRC ⊢
        have hzz : (z == z) = true := beq_self_eq_true z
        clear h1 h2 ha hs h0 hn htr HV
        go_wp2_with fail
        refine HRC.out.mono ?_
        rintro e w6 ⟨rfl, hb6⟩
        have HV := Go.Lib.hid (show LwP w (.returned (.bool true)) w6 from ⟨rfl, below_step HB5.out hb6⟩)
        clear hb6 HRC
        go_wp2_with fail
        go_ret
        exact HV.out
  · have b1 : (bodyErr t [] false == 0) = false := beq_eq_false_iff_ne.2 h0
    have b2 : (bodyErr t [] false != 0) = true := by rw [bne, b1]; rfl
    have ha := atE_bad (n := n) h0
    have hs : sizeN t n = 0 := by unfold sizeN; rw [if_neg (by rw [ha]; exact h0)]
    rw [ha, hs]
    have hq : (bodyErr t [] false == bodyErr t [] false) = true := beq_self_eq_true _
    clear h0 ha hs
    go_wp2_with fail
    go_ret
    exact HV.out
end Go.Proofs.YtjhinklijopobaaDoor.Co
