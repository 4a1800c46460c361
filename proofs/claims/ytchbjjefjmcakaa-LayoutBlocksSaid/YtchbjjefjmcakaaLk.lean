/- What Mark does, in plain lists (the topmost frame first). -/
import Derived.Test.YtchbjjefjmcakaaLi
import Derived.Test.YtchbjjefjmcakaaLj
namespace Go.Proofs.Ytchbjjefjmcakaa.Lb
open Go.RowKit Go.Proofs.Ytchbjjefjmcakaa.PLayoutBlocks Go.Proofs.YtchbjjefjmcakaaW.PrintWords Go.Proofs.YtchbjjefjmcakaaW.PrintLast Go.Proofs.YtchbjjefjmcakaaW.PrintMore
set_option linter.unusedVariables false
/-- A block begins after a token. -/
def opB (t : S27) : Bool := decide (t.f0 = 4) && (t.f1.toList == [119, 104, 101, 114, 101] || t.f1.toList == [111, 102] || t.f1.toList == [108, 101, 116] || t.f1.toList == [119, 105, 116, 104])
theorem opens_f (t : S27) : layout_opens.f t.f0 t.f1 t.f2 t.f3 t.f4 = some (opB t) := by
  unfold layout_opens.f opB
  by_cases h : t.f0 = 4
  · rw [if_pos h, decide_eq_true h, Bool.true_and]
    by_cases h1 : t.f1.toList = [119, 104, 101, 114, 101]
    · rw [if_pos h1, beq_iff_eq.mpr h1]; rfl
    · rw [if_neg h1, beq_eq_false_iff_ne.mpr h1]
      by_cases h2 : t.f1.toList = [111, 102]
      · rw [if_pos h2, beq_iff_eq.mpr h2]; rfl
      · rw [if_neg h2, beq_eq_false_iff_ne.mpr h2]
        by_cases h3 : t.f1.toList = [108, 101, 116]
        · rw [if_pos h3, beq_iff_eq.mpr h3]; rfl
        · rw [if_neg h3, beq_eq_false_iff_ne.mpr h3]; rfl
  · rw [if_neg h, decide_eq_false h]; rfl
theorem opens_calls (t : S27) (W : World) : Calls Try.prog 9 #[tV t] W fun e w' => e = .returned (.bool (opB t)) ∧ Below W.heap.size W w' :=
  layout_opens.calls t.f0 t.f1 t.f2 t.f3 t.f4 _ W (opens_f t)
abbrev St : Type := List Fr × List S27
/-- What stands before token t (o: a block begins after the token before, pv): the state, and whether t is still the first of its line. -/
def openM (o : Bool) (fi : Bool) (pv t : S27) (x : St) : St × Bool :=
  if o = false then (x, fi)
  else if isB t 5 [123] then (x, false)
  else if t.f0 ≠ 9 ∧ encR x.1 < t.f4 then (((t.f4, pv.f1) :: x.1, x.2 ++ [vt 6 t]), false)
  else ((x.1, x.2 ++ [vt 6 t] ++ [vt 7 t]), fi)
/-- What token t itself does. -/
def restM (fi : Bool) (t : S27) (x : St) : St :=
  let y := if fi then lineX t (lineR t x.1 x.2) else x
  let z := beforeR t y
  (if isB t 5 [40] || isB t 5 [123] then (0, ⟨#[]⟩) :: z.1 else z.1, z.2 ++ [t])
/-- First of its line. -/
def fiB (i : Nat) (pv t : S27) : Bool := decide (i = 0) || decide (pv.f3 < t.f3)
def opI (i : Nat) (pv : S27) : Bool := decide (0 < i) && opB pv
abbrev tk (l : List S27) (i : Int) : S27 := rd_T27 l i
/-- From token i on. -/
def goM (l : List S27) : Nat → Nat → St → St
  | 0, _, x => x
  | d + 1, i, x =>
    let y := openM (opI i (tk l ((i : Int) - 1))) (fiB i (tk l ((i : Int) - 1)) (tk l (i : Int))) (tk l ((i : Int) - 1)) (tk l (i : Int)) x
    if (tk l (i : Int)).f0 = 9 then y.1 else goM l d (i + 1) (restM y.2 (tk l (i : Int)) y.1)
/-- The blocks that are open at the end. -/
def clR (t : S27) : List Fr → List S27 → List S27
  | [], out => out
  | c :: r, out => clR t r (if 0 < c.1 then out ++ [vt 7 t] else out)
/-- The tokens that Mark answers. -/
def markL (l : List S27) : List S27 :=
  let x := goM l l.length 0 ([], [])
  clR (tk l ((l.length : Int) - 1)) x.1 x.2 ++ [tk l ((l.length : Int) - 1)]
/-- Frames and tokens together. -/
def sz (x : St) : Nat := x.2.length + x.1.length
theorem sz_open (o fi : Bool) (pv t : S27) (x : St) : sz (openM o fi pv t x).1 ≤ sz x + 2 := by
  unfold openM sz
  repeat' split
  all_goals (simp <;> omega)
theorem inR_len (t : S27) : ∀ (r : List Fr) (o : List S27), (inR t r o).2.length + (inR t r o).1.length = o.length + r.length
  | [], o => rfl
  | c :: r, o => by
    unfold inR
    split
    · simp; omega
    · rw [inR_len t r, List.length_append, List.length_singleton, List.length_cons]; omega
theorem sz_before (t : S27) (x : St) : sz (beforeR t x) ≤ sz x := by
  have h1 := shutR_len t x.1 x.2
  have h2 := inR_len t x.1 x.2
  unfold beforeR sz
  repeat' split
  all_goals (simp <;> omega)
theorem sz_lineX (t : S27) (x : St) : sz (lineX t x) ≤ sz x + 1 := by
  unfold lineX sz
  split
  · simp; omega
  · omega
theorem sz_rest (fi : Bool) (t : S27) (x : St) : sz (restM fi t x) ≤ sz x + 3 := by
  have h1 := lineR_len t x.1 x.2
  have h2 := sz_lineX t (lineR t x.1 x.2)
  have h3 : sz (if fi then lineX t (lineR t x.1 x.2) else x) ≤ sz x + 1 := by
    split
    · unfold sz at *; omega
    · omega
  have h4 := sz_before t (if fi then lineX t (lineR t x.1 x.2) else x)
  unfold restM
  generalize (if fi then lineX t (lineR t x.1 x.2) else x) = y at *
  unfold sz at *
  simp only [List.length_append, List.length_singleton]
  split
  · simp only [List.length_cons]; omega
  · omega
end Go.Proofs.Ytchbjjefjmcakaa.Lb
