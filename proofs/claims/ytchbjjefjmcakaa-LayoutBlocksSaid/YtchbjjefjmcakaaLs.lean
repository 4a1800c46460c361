/- The tokens' check of both sides, in plain lists. -/
import Derived.Test.YtchbjjefjmcakaaLl
import Derived.Test.YtchbjjefjmcakaaPLayoutBlocksx2
import Derived.Test.YtchbjjefjmcakaaPLayoutBlocksx4
import Derived.Test.YtchbjjefjmcakaaPLayoutBlocksx5
namespace Go.Proofs.Ytchbjjefjmcakaa.Lb
open Go.RowKit Go.Proofs.Ytchbjjefjmcakaa.PLayoutBlocks Go.Proofs.YtchbjjefjmcakaaW.PrintWords Go.Proofs.YtchbjjefjmcakaaW.PrintLast Go.Proofs.YtchbjjefjmcakaaW.PrintMore
set_option linter.unusedVariables false
set_option linter.unusedSimpArgs false
/-- The error of token i. -/
def errAt (l : List S27) (i : Nat) : Int :=
  if (tk l (i : Int)).f3 < 1 ∨ (tk l (i : Int)).f4 < 1 then 4
  else if ¬ ((0 ≤ (tk l (i : Int)).f0 ∧ (tk l (i : Int)).f0 ≤ 5) ∨ (tk l (i : Int)).f0 = 9) ∨ ((tk l (i : Int)).f0 = 9 ∧ i + 1 < l.length) ∨ (0 < i ∧ ((tk l (i : Int)).f3 < (tk l ((i : Int) - 1)).f3 ∨ ((tk l (i : Int)).f3 = (tk l ((i : Int) - 1)).f3 ∧ (tk l (i : Int)).f4 < (tk l ((i : Int) - 1)).f4))) then 3 else 0
def errFrom (l : List S27) : Nat → Nat → Int
  | 0, _ => 0
  | d + 1, i => if errAt l i = 0 then errFrom l d (i + 1) else errAt l i
/-- The error of a list of tokens. -/
def tokE (l : List S27) : Int := if 8193 < l.length then 2 else if l.length = 0 ∨ (tk l ((l.length : Int) - 1)).f0 ≠ 9 then 3 else errFrom l l.length 0
theorem err_pick (l : List S27) (i : Nat) (R : Int) : (if errAt l i = 0 then R else errAt l i) = if (rd_T27 l (i : Int)).f3 < 1 ∨ (rd_T27 l (i : Int)).f4 < 1 then 4
  else if ¬ ((0 ≤ (rd_T27 l (i : Int)).f0 ∧ (rd_T27 l (i : Int)).f0 ≤ 5) ∨ (rd_T27 l (i : Int)).f0 = 9) ∨ ((rd_T27 l (i : Int)).f0 = 9 ∧ i + 1 < l.length) ∨ (0 < i ∧ ((rd_T27 l (i : Int)).f3 < (rd_T27 l ((i : Int) - 1)).f3 ∨ ((rd_T27 l (i : Int)).f3 = (rd_T27 l ((i : Int) - 1)).f3 ∧ (rd_T27 l (i : Int)).f4 < (rd_T27 l ((i : Int) - 1)).f4))) then 3 else R := by
  by_cases h1 : (rd_T27 l (i : Int)).f3 < 1 ∨ (rd_T27 l (i : Int)).f4 < 1
  · have e : errAt l i = 4 := by unfold errAt; exact if_pos h1
    rw [e, if_pos h1]; rfl
  · rw [if_neg h1]
    by_cases h2 : ¬ ((0 ≤ (rd_T27 l (i : Int)).f0 ∧ (rd_T27 l (i : Int)).f0 ≤ 5) ∨ (rd_T27 l (i : Int)).f0 = 9) ∨ ((rd_T27 l (i : Int)).f0 = 9 ∧ i + 1 < l.length) ∨ (0 < i ∧ ((rd_T27 l (i : Int)).f3 < (rd_T27 l ((i : Int) - 1)).f3 ∨ ((rd_T27 l (i : Int)).f3 = (rd_T27 l ((i : Int) - 1)).f3 ∧ (rd_T27 l (i : Int)).f4 < (rd_T27 l ((i : Int) - 1)).f4)))
    · have e : errAt l i = 3 := by unfold errAt; exact (if_neg h1).trans (if_pos h2)
      rw [e, if_pos h2]; rfl
    · have e : errAt l i = 0 := by unfold errAt; exact (if_neg h1).trans (if_neg h2)
      rw [e, if_neg h2]; rfl
theorem te_step (l : List S27) (hl : l.length ≤ 8193) (i : Nat) (hi : i < l.length) (k : Nat) (R : Int) (h : provenancelaw1_tokensError.l0 k l l (l.length : Int) ((i + 1 : Nat) : Int) = some R) :
    provenancelaw1_tokensError.l0 (k + 2) l l (l.length : Int) (i : Int) = some (if errAt l i = 0 then R else errAt l i) := by
  have hw : wrap64 ((i : Int) + 1) = ((i + 1 : Nat) : Int) := by unfold wrap64; omega
  have hwl : wrap64 ((l.length : Int) - 1) = (l.length : Int) - 1 := by unfold wrap64; omega
  have hL : (i : Int) < (l.length : Int) := by omega
  have hL0 : (0 : Int) ≤ (i : Int) := by omega
  rw [err_pick]
  simp only [provenancelaw1_tokensError.l0, provenancelaw1_tokensError.j2, hw, hwl, if_pos hL, if_pos hL0, h]
  by_cases h0 : i = 0
  · have hz : ¬ ((i : Int) > 0) := by omega
    simp only [if_neg hz]
    generalize rd_T27 l ((i : Int) - 1) = pv
    generalize rd_T27 l (i : Int) = t
    by_cases h3 : t.f3 < 1
    · simp [h3]
    · by_cases h4 : t.f4 < 1
      · simp [h3, h4]
      · simp only [h3, h4, decide_false, or_self, if_false, Bool.false_eq_true, if_true]
        repeat' split
        all_goals first | rfl | (exfalso; omega)
  · have hz : (i : Int) > 0 := by omega
    have hp : wrap64 ((i : Int) - 1) = (i : Int) - 1 := by unfold wrap64; omega
    have hq : (0 : Int) ≤ (i : Int) - 1 := by omega
    have hr : (i : Int) - 1 < (l.length : Int) := by omega
    simp only [if_pos hz, hp, if_pos hq, if_pos hr]
    generalize rd_T27 l ((i : Int) - 1) = pv
    generalize rd_T27 l (i : Int) = t
    by_cases h3 : t.f3 < 1
    · simp [h3]
    · by_cases h4 : t.f4 < 1
      · simp [h3, h4]
      · simp only [h3, h4, decide_false, or_self, if_false, Bool.false_eq_true, if_true]
        repeat' split
        all_goals first | rfl | (exfalso; omega)
theorem te_l0 (l : List S27) (hl : l.length ≤ 8193) : ∀ d i, i + d = l.length → provenancelaw1_tokensError.l0 (2 * d + 1) l l (l.length : Int) (i : Int) = some (errFrom l d i) := by
  intro d
  induction d with
  | zero =>
    intro i hi
    have hL : ¬ ((i : Int) < (l.length : Int)) := by omega
    simp only [provenancelaw1_tokensError.l0, if_neg hL]; rfl
  | succ d ih =>
    intro i hi
    exact te_step l hl i (by omega) (2 * d + 1) _ (ih (i + 1) (by omega))
theorem te_f (l : List S27) : provenancelaw1_tokensError.f (2 * l.length + 2) l = some (tokE l) := by
  unfold provenancelaw1_tokensError.f tokE
  by_cases h1 : 8193 < l.length
  · rw [if_pos (by omega), if_pos h1]
  · rw [if_neg (by omega), if_neg h1]
    by_cases h2 : l.length = 0
    · rw [if_pos (by omega), if_pos (.inl h2)]; rfl
    · have hwl : wrap64 ((l.length : Int) - 1) = (l.length : Int) - 1 := by unfold wrap64; omega
      rw [if_neg (by omega), hwl, if_pos (by omega), if_pos (by omega)]
      by_cases h9 : (tk l ((l.length : Int) - 1)).f0 = 9
      · rw [if_neg (by rintro (h | h); exact h2 h; exact h h9)]
        have e : ((tk l ((l.length : Int) - 1)).f0 != 9) = false := by simp [h9]
        have e2 : ((rd_T27 l ((l.length : Int) - 1)).f0 != 9) = false := e
        rw [e2]
        simp only [provenancelaw1_tokensError.j0, Bool.false_eq_true, if_false]
        exact te_l0 l (by omega) l.length 0 (by omega)
      · rw [if_pos (.inr h9)]
        have e2 : ((rd_T27 l ((l.length : Int) - 1)).f0 != 9) = true := by simp; exact h9
        rw [e2]; rfl
theorem ck_step (l : List S27) (hl : l.length ≤ 8193) (h9 : (tk l ((l.length : Int) - 1)).f0 = 9) (i : Nat) (hi : i < l.length) (k : Nat) (R : Int) (h : layout_Check.l0 k l l (l.length : Int) ((i + 1 : Nat) : Int) = some R) :
    layout_Check.l0 (k + 3) l l (l.length : Int) (i : Int) = some (if errAt l i = 0 then R else errAt l i) := by
  have hw : wrap64 ((i : Int) + 1) = ((i + 1 : Nat) : Int) := by unfold wrap64; omega
  have hwl : wrap64 ((l.length : Int) - 1) = (l.length : Int) - 1 := by unfold wrap64; omega
  have hL : (i : Int) < (l.length : Int) := by omega
  have hL0 : (0 : Int) ≤ (i : Int) := by omega
  have hlast : i + 1 = l.length → (rd_T27 l (i : Int)).f0 = 9 := fun e => by rw [show (i : Int) = (l.length : Int) - 1 by omega]; exact h9
  rw [err_pick]
  simp only [layout_Check.l0, layout_Check.j2, layout_Check.j3, hw, hwl, if_pos hL, if_pos hL0, h]
  have hb : ∀ a : Int, ((a == 9) != ((i : Int) == (l.length : Int) - 1)) = true ↔ ¬ (a = 9 ↔ i + 1 = l.length) := by
    intro a
    have h1 : (a == 9) = decide (a = 9) := rfl
    have h2 : ((i : Int) == (l.length : Int) - 1) = decide (i + 1 = l.length) := by
      by_cases e : i + 1 = l.length
      · rw [decide_eq_true e]; exact beq_iff_eq.mpr (by omega)
      · rw [decide_eq_false e]; exact beq_eq_false_iff_ne.mpr (by omega)
    rw [h1, h2]
    by_cases e1 : a = 9 <;> by_cases e2 : i + 1 = l.length <;> simp [e1, e2]
  simp only [hb]
  by_cases h0 : i = 0
  · have hz : ¬ ((i : Int) > 0) := by omega
    simp only [if_neg hz]
    generalize rd_T27 l ((i : Int) - 1) = pv
    generalize rd_T27 l (i : Int) = t at *
    by_cases h3 : t.f3 < 1
    · simp [h3]
    · by_cases h4 : t.f4 < 1
      · simp [h3, h4]
      · simp only [h3, h4, decide_false, or_self, if_false, Bool.false_eq_true, if_true]
        repeat' split
        all_goals first | rfl | (exfalso; omega)
  · have hz : (i : Int) > 0 := by omega
    have hp : wrap64 ((i : Int) - 1) = (i : Int) - 1 := by unfold wrap64; omega
    have hq : (0 : Int) ≤ (i : Int) - 1 := by omega
    have hr : (i : Int) - 1 < (l.length : Int) := by omega
    simp only [if_pos hz, hp, if_pos hq, if_pos hr]
    generalize rd_T27 l ((i : Int) - 1) = pv
    generalize rd_T27 l (i : Int) = t at *
    by_cases h3 : t.f3 < 1
    · simp [h3]
    · by_cases h4 : t.f4 < 1
      · simp [h3, h4]
      · simp only [h3, h4, decide_false, or_self, if_false, Bool.false_eq_true, if_true]
        repeat' split
        all_goals first | rfl | (exfalso; omega)
theorem ck_l0 (l : List S27) (hl : l.length ≤ 8193) (h9 : (tk l ((l.length : Int) - 1)).f0 = 9) : ∀ d i, i + d = l.length → layout_Check.l0 (3 * d + 1) l l (l.length : Int) (i : Int) = some (errFrom l d i) := by
  intro d
  induction d with
  | zero =>
    intro i hi
    have hL : ¬ ((i : Int) < (l.length : Int)) := by omega
    simp only [layout_Check.l0, if_neg hL]; rfl
  | succ d ih =>
    intro i hi
    exact ck_step l hl h9 i (by omega) (3 * d + 1) _ (ih (i + 1) (by omega))
theorem ck_f (l : List S27) : layout_Check.f (3 * l.length + 2) l = some (tokE l) := by
  unfold layout_Check.f tokE
  by_cases h1 : 8193 < l.length
  · rw [if_pos (by omega), if_pos h1]
  · rw [if_neg (by omega), if_neg h1]
    by_cases h2 : l.length = 0
    · rw [if_pos (by omega), if_pos (.inl h2)]; rfl
    · have hwl : wrap64 ((l.length : Int) - 1) = (l.length : Int) - 1 := by unfold wrap64; omega
      rw [if_neg (by omega), hwl, if_pos (by omega), if_pos (by omega)]
      by_cases h9 : (tk l ((l.length : Int) - 1)).f0 = 9
      · rw [if_neg (by rintro (h | h); exact h2 h; exact h h9)]
        have e2 : ((rd_T27 l ((l.length : Int) - 1)).f0 != 9) = false := by simp; exact h9
        rw [e2]
        simp only [layout_Check.j0, Bool.false_eq_true, if_false]
        exact ck_l0 l (by omega) h9 l.length 0 (by omega)
      · rw [if_pos (.inr h9)]
        have e2 : ((rd_T27 l ((l.length : Int) - 1)).f0 != 9) = true := by simp; exact h9
        rw [e2]; rfl
/-- No error: what the tokens are. -/
theorem err_zero (l : List S27) : ∀ d i, i + d = l.length → errFrom l d i = 0 → ∀ j, i ≤ j → j < l.length → errAt l j = 0 := by
  intro d
  induction d with
  | zero => intro i hi _ j h1 h2; omega
  | succ d ih =>
    intro i hi h j h1 h2
    unfold errFrom at h
    by_cases he : errAt l i = 0
    · rw [if_pos he] at h
      by_cases hj : j = i
      · rw [hj]; exact he
      · exact ih (i + 1) (by omega) h j (by omega) h2
    · rw [if_neg he] at h; exact absurd h he
theorem tok_good (l : List S27) (h : tokE l = 0) : Good l ∧ (∀ i, i + 1 < l.length → (tk l (i : Int)).f3 ≤ (tk l ((i + 1 : Nat) : Int)).f3) ∧ (∀ i, i < l.length → ((tk l (i : Int)).f0 = 9 ↔ i + 1 = l.length)) := by
  unfold tokE at h
  split at h
  · cases h
  · split at h
    · cases h
    · rename_i h1 h2
      have hp : 0 < l.length := by
        have : ¬ l.length = 0 := fun e => h2 (.inl e)
        omega
      have h9 : (tk l ((l.length : Int) - 1)).f0 = 9 := by
        by_cases e : (tk l ((l.length : Int) - 1)).f0 = 9
        · exact e
        · exact absurd (.inr e) h2
      have hz := err_zero l l.length 0 (by omega) h
      refine ⟨⟨hp, by omega, fun i hi => ?_⟩, fun i hi => ?_, fun i hi => ?_⟩
      · have := hz i (by omega) hi
        unfold errAt at this
        split at this
        · cases this
        · omega
      · have := hz (i + 1) (by omega) hi
        unfold errAt at this
        rw [show (((i + 1 : Nat)) : Int) - 1 = (i : Int) by omega] at this
        split at this
        · cases this
        · split at this
          · cases this
          · omega
      · constructor
        · intro e
          have := hz i (by omega) hi
          unfold errAt at this
          split at this
          · cases this
          · split at this
            · cases this
            · omega
        · intro e
          rw [show (i : Int) = (l.length : Int) - 1 by omega]; exact h9
theorem eq_l0 (x : List S27) : ∀ d i, i + d = x.length → x.length < 1000000 → api_Token.l0 (d + 1) x x (x.length : Int) (i : Int) = some true := by
  intro d
  induction d with
  | zero =>
    intro i hi hl
    have hL : ¬ ((i : Int) < (x.length : Int)) := by omega
    simp only [api_Token.l0, if_neg hL]
  | succ d ih =>
    intro i hi hl
    have hL : (i : Int) < (x.length : Int) := by omega
    have hL0 : (0 : Int) ≤ (i : Int) := by omega
    have hw : wrap64 ((i : Int) + 1) = ((i + 1 : Nat) : Int) := by unfold wrap64; omega
    have h := ih (i + 1) (by omega) hl
    rw [api_Token.l0, if_pos hL, if_pos hL0, if_pos hL, if_pos hL, if_neg (by simp), hw]
    exact h
theorem eq_f (x : List S27) (hl : x.length < 1000000) : api_Token.f (x.length + 1) x x = some true := by
  unfold api_Token.f
  rw [if_pos rfl]
  exact eq_l0 x x.length 0 (by omega) hl
end Go.Proofs.Ytchbjjefjmcakaa.Lb
