/- What the reference's Layout does, in plain lists; and that Mark does the same. -/
import Derived.Test.YtchbjjefjmcakaaLm
namespace Go.Proofs.Ytchbjjefjmcakaa.Lb
open Go.RowKit Go.Proofs.Ytchbjjefjmcakaa.PLayoutBlocks Go.Proofs.YtchbjjefjmcakaaW.PrintWords Go.Proofs.YtchbjjefjmcakaaW.PrintLast Go.Proofs.YtchbjjefjmcakaaW.PrintMore
set_option linter.unusedVariables false
set_option linter.unusedSimpArgs false
/-- No column is below 0. -/
def Ge0 (z : List Fr) : Prop := ∀ c ∈ z, 0 ≤ c.1
/-- How many of the blocks stand right of a token. -/
def cntR (t : S27) : List Fr → Nat
  | [] => 0
  | c :: r => if c.1 ≤ t.f4 then 0 else cntR t r + 1
/-- The closure's step. -/
def shutL (t : S27) (n : Nat) (x : St) : St := (x.1.drop n, x.2 ++ List.replicate n (vt 7 t))
def semiB (t : S27) (z : List Fr) : Bool := decide ((bkR z).head?.map (fun c => c.1) = some t.f4)
def lineL (t : S27) (x : St) : St :=
  let y := shutL t (cntR t (bkR x.1)) x
  if semiB t y.1 then (y.1, y.2 ++ [vt 8 t]) else y
def restL (fi : Bool) (t : S27) (x : St) : St :=
  let y := if fi then lineL t x else x
  let e := endsR t y.1
  let z := shutL t e.1 y
  let z1 := if e.2 then z.1.tail else z.1
  (if isB t 5 [40] || isB t 5 [123] then (0, ⟨#[]⟩) :: z1 else z1, z.2 ++ [t])
def fiL (i : Nat) (pv t : S27) : Bool := decide (i = 0) || decide (pv.f3 ≠ t.f3)
/-- The blocks that are open. -/
def opens (z : List Fr) : Nat := z.countP (fun c => decide (0 < c.1))
def goL (l : List S27) : Nat → Nat → St → List S27
  | 0, _, x => x.2
  | d + 1, i, x =>
    let y := openM (opI i (tk l ((i : Int) - 1))) (fiL i (tk l ((i : Int) - 1)) (tk l (i : Int))) (tk l ((i : Int) - 1)) (tk l (i : Int)) x
    if (tk l (i : Int)).f0 = 9 then y.1.2 ++ List.replicate (opens y.1.1) (vt 7 (tk l (i : Int))) ++ [tk l (i : Int)] else goL l d (i + 1) (restL y.2 (tk l (i : Int)) y.1)
def layL (l : List S27) : List S27 := goL l l.length 0 ([], [])
theorem rep_snoc (n : Nat) (v : S27) (out : List S27) : out ++ [v] ++ List.replicate n v = out ++ List.replicate (n + 1) v := by
  rw [List.append_assoc, List.replicate_succ]; rfl
theorem shutR_eq (t : S27) : ∀ (z : List Fr) (out : List S27), shutR t z out = shutL t (bkR z).length (z, out)
  | [], out => by simp [shutR, shutL, bkR]
  | c :: r, out => by
    unfold shutR
    by_cases h : 0 < c.1
    · rw [if_pos h, shutR_eq t r]
      have hb : bkR (c :: r) = c :: bkR r := by simp [bkR, List.takeWhile_cons, h]
      rw [hb]
      simp only [shutL, List.length_cons, List.drop_succ_cons, rep_snoc]
    · rw [if_neg h]
      have hb : bkR (c :: r) = [] := by simp [bkR, List.takeWhile_cons, h]
      rw [hb]; simp [shutL]
theorem lineR_eq (t : S27) (ht : 1 ≤ t.f4) : ∀ (z : List Fr) (out : List S27), lineR t z out = shutL t (cntR t (bkR z)) (z, out)
  | [], out => by simp [lineR, shutL, bkR, cntR]
  | c :: r, out => by
    unfold lineR
    by_cases h : t.f4 < c.1
    · have h0 : 0 < c.1 := by omega
      have hb : bkR (c :: r) = c :: bkR r := by simp [bkR, List.takeWhile_cons, h0]
      rw [if_pos h, lineR_eq t ht r, hb]
      simp only [cntR]
      rw [if_neg (by omega)]
      simp only [shutL, List.drop_succ_cons, rep_snoc]
    · rw [if_neg h]
      by_cases h0 : 0 < c.1
      · have hb : bkR (c :: r) = c :: bkR r := by simp [bkR, List.takeWhile_cons, h0]
        rw [hb]; simp only [cntR]; rw [if_pos (by omega)]; simp [shutL]
      · have hb : bkR (c :: r) = [] := by simp [bkR, List.takeWhile_cons, h0]
        rw [hb]; simp [shutL, cntR]
theorem semi_eq (t : S27) (ht : 1 ≤ t.f4) (z : List Fr) : ((tp z.reverse).1 = t.f4) ↔ semiB t z = true := by
  unfold semiB
  cases z with
  | nil => simp [tp, bkR]; omega
  | cons c r =>
    have h1 : (tp (c :: r).reverse) = c := by simp [tp]
    rw [h1]
    by_cases h0 : 0 < c.1
    · have hb : bkR (c :: r) = c :: bkR r := by simp [bkR, List.takeWhile_cons, h0]
      rw [hb]; simp
    · have hb : bkR (c :: r) = [] := by simp [bkR, List.takeWhile_cons, h0]
      rw [hb]; simp; omega
theorem line_eq (t : S27) (ht : 1 ≤ t.f4) (x : St) : lineX t (lineR t x.1 x.2) = lineL t x := by
  rw [lineR_eq t ht]
  unfold lineX lineL
  simp only [semi_eq t ht]
theorem let_shift : ∀ (z : List Fr) (i : Nat), letF z i = if z.any isLet then letF z 0 + i else 0
  | [], i => by simp [letF]
  | c :: r, i => by
    have e1 : ∀ k, letF (c :: r) k = if isLet c then k + 1 else letF r (k + 1) := fun k => rfl
    rw [e1 i, e1 0, List.any_cons]
    by_cases h : isLet c = true
    · rw [h, Bool.true_or, if_pos rfl, if_pos rfl, if_pos rfl]; omega
    · rw [if_neg h, if_neg h, let_shift r (i + 1), let_shift r (0 + 1)]
      simp only [Bool.not_eq_true] at h
      rw [h, Bool.false_or]
      by_cases h2 : r.any isLet = true
      · rw [if_pos h2, if_pos h2, if_pos h2]; omega
      · rw [if_neg h2, if_neg h2]
theorem inR_eq (t : S27) : ∀ (z : List Fr) (out : List S27), (bkR z).any isLet = true → inR t z out = shutL t (letF (bkR z) 0) (z, out)
  | [], out, h => by simp [bkR] at h
  | c :: r, out, h => by
    by_cases h0 : 0 < c.1
    · have hb : bkR (c :: r) = c :: bkR r := by simp [bkR, List.takeWhile_cons, h0]
      rw [hb] at h ⊢
      unfold inR letF
      by_cases hc : isLet c = true
      · rw [if_pos hc, if_pos hc]; simp [shutL]
      · rw [if_neg hc, if_neg hc]
        have h2 : (bkR r).any isLet = true := by simpa [hc] using h
        rw [inR_eq t r _ h2, let_shift _ (0 + 1), if_pos h2]
        simp only [shutL, List.drop_succ_cons, rep_snoc, Nat.zero_add]
    · have hb : bkR (c :: r) = [] := by simp [bkR, List.takeWhile_cons, h0]
      rw [hb] at h; simp at h
theorem br_eq : ∀ (z : List Fr), Ge0 z → z.any isBr = decide ((bkR z).length < z.length)
  | [], _ => by simp [bkR]
  | c :: r, h => by
    have hr : Ge0 r := fun x hx => h x (List.mem_cons_of_mem _ hx)
    by_cases h0 : 0 < c.1
    · have hb : bkR (c :: r) = c :: bkR r := by simp [bkR, List.takeWhile_cons, h0]
      have hz : isBr c = false := by unfold isBr; exact beq_eq_false_iff_ne.mpr (by omega)
      rw [hb, List.any_cons, hz, Bool.false_or, br_eq r hr]
      simp
    · have hb : bkR (c :: r) = [] := by simp [bkR, List.takeWhile_cons, h0]
      have hz : isBr c = true := by
        have := h c (List.mem_cons_self ..)
        unfold isBr; exact beq_iff_eq.mpr (by omega)
      rw [hb, List.any_cons, hz]; simp
theorem before_eq (t : S27) (x : St) (h : Ge0 x.1) : beforeR t x = (let e := endsR t x.1; let z := shutL t e.1 x; (if e.2 then z.1.tail else z.1, z.2)) := by
  unfold beforeR endsR
  by_cases h1 : (isB t 5 [41] || isB t 5 [125]) = true
  · rw [if_pos h1, if_pos h1, shutR_eq]
    simp only [shutL]
    by_cases h2 : (bkR x.1).length < x.1.length
    · simp [h2]
    · have h3 : x.1.drop (bkR x.1).length = [] := List.drop_eq_nil_of_le (by omega)
      simp [h2, h3]
  · rw [if_neg h1, if_neg h1]
    by_cases h2 : isB t 5 [44] = true
    · rw [if_pos h2, br_eq x.1 h]
      have h4 : isB t 4 [105, 110] = false := by
        unfold isB at h2 ⊢
        have h5 : t.f0 = 5 := by
          by_cases h6 : t.f0 = 5
          · exact h6
          · simp [h6] at h2
        simp [h5]
      rw [h2, h4]
      by_cases h3 : (bkR x.1).length < x.1.length
      · simp [h3, shutR_eq]
      · simp [h3, shutL]
    · rw [if_neg h2]
      simp only [Bool.not_eq_true] at h2
      rw [h2]
      by_cases h3 : isB t 4 [105, 110] = true
      · rw [if_pos h3, h3]
        by_cases h4 : (bkR x.1).any isLet = true
        · have h5 : (x.1.takeWhile fun c => decide (0 < c.1)).any isLet = true := h4
          rw [if_pos h5, inR_eq t _ _ h4]
          simp
        · have h5 : ¬ (x.1.takeWhile fun c => decide (0 < c.1)).any isLet = true := h4
          have h6 : letF (bkR x.1) 0 = 0 := by rw [let_shift, if_neg h4]
          rw [if_neg h5]
          simp [h6, shutL]
      · rw [if_neg h3]
        simp only [Bool.not_eq_true] at h3
        rw [h3]; simp [shutL]
theorem ge0_drop {z : List Fr} (h : Ge0 z) (n : Nat) : Ge0 (z.drop n) := fun c hc => h c (List.mem_of_mem_drop hc)
theorem ge0_line {t : S27} {x : St} (h : Ge0 x.1) : Ge0 (lineL t x).1 := by
  unfold lineL
  dsimp only
  split <;> exact ge0_drop h _
theorem rest_eq (fi : Bool) (t : S27) (x : St) (h : Ge0 x.1) (ht : 1 ≤ t.f4) : restM fi t x = restL fi t x := by
  unfold restM restL
  rw [line_eq t ht]
  have hg : Ge0 (if fi then lineL t x else x).1 := by
    split
    · exact ge0_line h
    · exact h
  generalize (if fi then lineL t x else x) = y at *
  dsimp only
  rw [before_eq t y hg]
theorem ge0_rest (fi : Bool) (t : S27) (x : St) (h : Ge0 x.1) : Ge0 (restL fi t x).1 := by
  have hg : Ge0 (if fi then lineL t x else x).1 := by
    split
    · exact ge0_line h
    · exact h
  unfold restL
  generalize (if fi then lineL t x else x) = y at *
  dsimp only
  have h1 : Ge0 (shutL t (endsR t y.1).1 y).1 := ge0_drop hg _
  have h2 : Ge0 (if (endsR t y.1).2 then (shutL t (endsR t y.1).1 y).1.tail else (shutL t (endsR t y.1).1 y).1) := by
    split
    · exact fun c hc => h1 c (List.mem_of_mem_tail hc)
    · exact h1
  split
  · intro c hc
    rcases List.mem_cons.1 hc with rfl | h3
    · exact Int.le_refl 0
    · exact h2 c h3
  · exact h2
theorem ge0_open (o fi : Bool) (pv t : S27) (x : St) (h : Ge0 x.1) (ht : 1 ≤ t.f4) : Ge0 (openM o fi pv t x).1.1 := by
  unfold openM
  repeat' split
  · exact h
  · exact h
  · intro c hc
    rcases List.mem_cons.1 hc with rfl | h3
    · show 0 ≤ t.f4; omega
    · exact h c h3
  · exact h
theorem clR_eq (t : S27) : ∀ (z : List Fr) (out : List S27), clR t z out = out ++ List.replicate (opens z) (vt 7 t)
  | [], out => by simp [clR, opens]
  | c :: r, out => by
    unfold clR
    rw [clR_eq t r]
    by_cases h : 0 < c.1
    · rw [if_pos h, rep_snoc]
      simp [opens, List.countP_cons, h]
    · rw [if_neg h]
      simp [opens, List.countP_cons, h]
theorem go_eq (l : List S27) (hc : ∀ i, i < l.length → 1 ≤ (tk l (i : Int)).f4) (ho : ∀ i, i + 1 < l.length → (tk l (i : Int)).f3 ≤ (tk l ((i + 1 : Nat) : Int)).f3) (he : ∀ i, i < l.length → ((tk l (i : Int)).f0 = 9 ↔ i + 1 = l.length)) :
    ∀ d i x, i + (d + 1) = l.length → Ge0 x.1 → goL l (d + 1) i x = (let y := goM l (d + 1) i x; clR (tk l ((l.length : Int) - 1)) y.1 y.2 ++ [tk l ((l.length : Int) - 1)]) := by
  intro d
  induction d with
  | zero =>
    intro i x hi hx
    have h9 := (he i (by omega)).2 hi
    have hl : (l.length : Int) - 1 = (i : Int) := by omega
    have hf : fiL i (tk l ((i : Int) - 1)) (tk l (i : Int)) = fiB i (tk l ((i : Int) - 1)) (tk l (i : Int)) := by
      unfold fiL fiB
      by_cases h0 : i = 0
      · simp [h0]
      · have := ho (i - 1) (by omega)
        rw [show (((i - 1 : Nat)) : Int) = (i : Int) - 1 by omega, show i - 1 + 1 = i by omega] at this
        simp only [h0, decide_false, Bool.false_or]
        exact decide_eq_decide.2 (by omega)
    simp only [goL, goM]
    rw [if_pos h9, if_pos h9, hl, clR_eq, hf]
  | succ d ih =>
    intro i x hi hx
    have h9 : ¬ (tk l (i : Int)).f0 = 9 := fun h => by have := (he i (by omega)).1 h; omega
    have hf : fiL i (tk l ((i : Int) - 1)) (tk l (i : Int)) = fiB i (tk l ((i : Int) - 1)) (tk l (i : Int)) := by
      unfold fiL fiB
      by_cases h0 : i = 0
      · simp [h0]
      · have := ho (i - 1) (by omega)
        rw [show (((i - 1 : Nat)) : Int) = (i : Int) - 1 by omega, show i - 1 + 1 = i by omega] at this
        simp only [h0, decide_false, Bool.false_or]
        exact decide_eq_decide.2 (by omega)
    have hg := ge0_open (opI i (tk l ((i : Int) - 1))) (fiB i (tk l ((i : Int) - 1)) (tk l (i : Int))) (tk l ((i : Int) - 1)) (tk l (i : Int)) x hx (hc i (by omega))
    rw [goL, goM]
    dsimp only
    rw [if_neg h9, if_neg h9, hf, rest_eq _ _ _ hg (hc i (by omega))]
    exact ih (i + 1) _ (by omega) (ge0_rest _ _ _ hg)
theorem lay_eq (l : List S27) (h0 : 0 < l.length) (hc : ∀ i, i < l.length → 1 ≤ (tk l (i : Int)).f4) (ho : ∀ i, i + 1 < l.length → (tk l (i : Int)).f3 ≤ (tk l ((i + 1 : Nat) : Int)).f3) (he : ∀ i, i < l.length → ((tk l (i : Int)).f0 = 9 ↔ i + 1 = l.length)) : layL l = markL l := by
  obtain ⟨d, hd⟩ : ∃ d, l.length = d + 1 := ⟨l.length - 1, by omega⟩
  have h := go_eq l hc ho he d 0 ([], []) (by omega) (fun _ h => by cases h)
  unfold layL markL
  rw [← hd] at h
  exact h
end Go.Proofs.Ytchbjjefjmcakaa.Lb
