import Derived.Test.YtjhinklijopobaaDoorGCC8
namespace Go.Proofs.YtjhinklijopobaaDoor.Co
open Go.RowKit Go.Proofs.YtjhinklijopobaaDoor.PCoreChecks Go.Proofs.YtjhinklijopobaaDoorW.PrintWords Go.Proofs.YtjhinklijopobaaDoorW.PrintLast Go.Proofs.YtjhinklijopobaaDoorW.PrintMore
set_option linter.unusedVariables false
set_option linter.unusedSimpArgs false

/-! ### core.at -/
/-- The error of a place in a list. -/
noncomputable def atE (t : List S28) (n : Int) : Int := if bodyErr t [] false = 0 then (if n < 0 ∨ (t.length : Int) ≤ n then 12 else 0) else bodyErr t [] false
def AtP (t : List S28) (n : Int) (w : World) (e : Ending) (w' : World) : Prop := e = .returned (.int .i64 (atE t n)) ∧ Below w.heap.size w w'
theorem AtP.mk {t : List S28} {n : Int} {w w' : World} {v : Int} (h : atE t n = v) (hb : Below w.heap.size w w') : AtP t n w (.returned (.int .i64 v)) w' := ⟨by rw [h], hb⟩
set_option maxHeartbeats 8000000 in
set_option maxRecDepth 100000 in
theorem at_calls (t : List S28) (n : Int) (A0 : Option Addr) (c0 : Nat) (w : World) (h : Ein w t A0 c0) (hT : Tab w) : Calls Tryd.prog 42 #[.slice A0 t.length c0, .int .i64 n] w (AtP t n w) := by
  have HC := Go.Lib.hid (check_calls t A0 c0 w h hT)
  have HE := Go.Lib.hid (show atE t n = if bodyErr t [] false = 0 then (if n < 0 ∨ (t.length : Int) ≤ n then 12 else 0) else bodyErr t [] false from rfl)
  clear h hT
  go_enter Tryd.func42, Tryd.ntmps42
  go_wp2_with fail
  refine HC.out.mono ?_
  rintro e w1 ⟨rfl, hb1⟩
  have HB := Go.Lib.hid hb1
  clear hb1 HC
  by_cases h0 : bodyErr t [] false = 0
  · have b1 : (bodyErr t [] false == 0) = true := beq_iff_eq.2 h0
    have b2 : (bodyErr t [] false != 0) = false := by rw [bne, b1]; rfl
    replace HE := Go.Lib.hid (HE.out.trans (if_pos h0))
    clear h0
    by_cases h1 : n < 0
    · have d1 : decide (n < 0) = true := decide_eq_true h1
      have HV := Go.Lib.hid (HE.out.trans (if_pos (Or.inl h1)))
      clear h1
      go_wp2_with fail
      go_ret
      exact AtP.mk HV.out HB.out
    · have d1 : decide (n < 0) = false := decide_eq_false h1
      by_cases h2 : (t.length : Int) ≤ n
      · have d2 : decide ((t.length : Int) ≤ n) = true := decide_eq_true h2
        have HV := Go.Lib.hid (HE.out.trans (if_pos (Or.inr h2)))
        clear h1 h2
        go_wp2_with fail
        go_ret
        exact AtP.mk HV.out HB.out
      · have d2 : decide ((t.length : Int) ≤ n) = false := decide_eq_false h2
        have HV := Go.Lib.hid (HE.out.trans (if_neg (by omega)))
        clear h1 h2
        go_wp2_with fail
        go_ret
        exact AtP.mk HV.out HB.out
  · have b1 : (bodyErr t [] false == 0) = false := beq_eq_false_iff_ne.2 h0
    have b2 : (bodyErr t [] false != 0) = true := by rw [bne, b1]; rfl
    have HV := Go.Lib.hid (HE.out.trans (if_neg h0))
    clear h0
    go_wp2_with fail
    go_ret
    exact AtP.mk HV.out HB.out
end Go.Proofs.YtjhinklijopobaaDoor.Co
