import Derived.Test.YtjhinklijopobaaDoorGc
import Derived.Test.YtjhinklijopobaaDoorFa
namespace Go.Proofs.YtjhinklijopobaaDoor.Co
open Go.RowKit Go.Proofs.YtjhinklijopobaaDoor.PCoreChecks Go.Proofs.YtjhinklijopobaaDoorW.PrintWords Go.Proofs.YtjhinklijopobaaDoorW.PrintLast Go.Proofs.YtjhinklijopobaaDoorW.PrintMore
set_option linter.unusedVariables false
set_option linter.unusedSimpArgs false

/-! ### Errors of a place; what a list without errors is -/
theorem atE_zero {t : List S28} {n : Int} (h : atE t n = 0) : bodyErr t [] false = 0 ∧ 0 ≤ n ∧ n < (t.length : Int) := by
  unfold atE at h
  by_cases h0 : bodyErr t [] false = 0
  · rw [if_pos h0] at h
    by_cases h1 : n < 0 ∨ (t.length : Int) ≤ n
    · rw [if_pos h1] at h; omega
    · exact ⟨h0, by omega, by omega⟩
  · rw [if_neg h0] at h; exact absurd h h0
theorem atE_ok {t : List S28} {n : Int} (h : bodyErr t [] false = 0) (h0 : 0 ≤ n) (h1 : n < (t.length : Int)) : atE t n = 0 := by
  unfold atE; rw [if_pos h, if_neg (by omega)]
theorem atE_none {t : List S28} {n : Int} (h : bodyErr t [] false = 0) (h0 : n < 0 ∨ (t.length : Int) ≤ n) : atE t n = 12 := by
  unfold atE; rw [if_pos h, if_pos h0]
theorem atE_bad {t : List S28} {n : Int} (h : bodyErr t [] false ≠ 0) : atE t n = bodyErr t [] false := by
  unfold atE; rw [if_neg h]
theorem body_oks {t : List S28} (h : bodyErr t [] false = 0) : t.length ≤ 4096 ∧ treeB t = true ∧ ∀ x ∈ t, Ok x := by
  obtain ⟨hn, htr⟩ := body_zero h
  refine ⟨hn, htr, fun x hx => ok_of (flat := false) htr hn hx (firstE_all _ _ ?_ x hx)⟩
  unfold bodyErr at h
  rw [if_neg (by omega), if_pos htr] at h
  split at h
  · omega
  · split at h
    · assumption
    · rename_i h1 h2; exact absurd h h2
end Go.Proofs.YtjhinklijopobaaDoor.Co
