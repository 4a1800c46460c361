import Derived.Test.YtjhinklijopobaaDoorFb
namespace Go.Proofs.YtjhinklijopobaaDoor.Co
open Go.RowKit Go.Proofs.YtjhinklijopobaaDoor.PCoreChecks Go.Proofs.YtjhinklijopobaaDoorW.PrintWords Go.Proofs.YtjhinklijopobaaDoorW.PrintLast Go.Proofs.YtjhinklijopobaaDoorW.PrintMore
set_option linter.unusedVariables false
set_option linter.unusedSimpArgs false

/-! ### The marks of R.Below -/
/-- What is marked when the nodes from i up to n have been seen. -/
def Mk (t : List S28) (n i k : Nat) : Prop := k = n ∨ ∃ (p : Nat) (h : p < t.length), i ≤ p ∧ p ≤ n ∧ Bl t n p ∧ (k : Int) ∈ (t[p]'h).f3
/-- and the first j kids of node i. -/
def MkJ (t : List S28) (n i j k : Nat) : Prop := Mk t n (i + 1) k ∨ (Bl t n i ∧ ∃ h : i < t.length, (k : Int) ∈ ((t[i]'h).f3).take j)
theorem Mk.start {t : List S28} {n k : Nat} : Mk t n (n + 1) k ↔ k = n := ⟨fun h => h.elim id (fun ⟨p, _, h1, h2, _⟩ => by omega), Or.inl⟩
theorem Mk.done {t : List S28} (hr : rB t = true) {n k : Nat} : Mk t n 0 k ↔ Bl t n k := by
  constructor
  · rintro (rfl | ⟨p, h, _, _, h1, h2⟩)
    · exact Bl.self
    · exact Bl.kid p h k h1 h2
  · intro h
    cases h with
    | self => exact Or.inl rfl
    | kid p hp _ h1 h2 => exact Or.inr ⟨p, hp, Nat.zero_le _, h1.le hr, h1, h2⟩
theorem Mk.here {t : List S28} (hr : rB t = true) {n i : Nat} : Mk t n (i + 1) i ↔ Bl t n i := by
  constructor
  · rintro (rfl | ⟨p, h, _, _, h1, h2⟩)
    · exact Bl.self
    · exact Bl.kid p h i h1 h2
  · intro h
    cases h with
    | self => exact Or.inl rfl
    | kid p hp _ h1 h2 =>
      have := badK_mem (rB_at hr p hp) h2
      exact Or.inr ⟨p, hp, by omega, h1.le hr, h1, h2⟩
theorem MkJ.start {t : List S28} {n i k : Nat} : MkJ t n i 0 k ↔ Mk t n (i + 1) k := ⟨fun h => h.elim id (fun ⟨_, _, h⟩ => by simp at h), Or.inl⟩
theorem MkJ.here {t : List S28} (hr : rB t = true) {n i j : Nat} : MkJ t n i j i ↔ Bl t n i := by
  refine Iff.trans ⟨?_, Or.inl⟩ (Mk.here hr)
  rintro (h | ⟨_, hi, h⟩)
  · exact h
  · have := badK_mem (rB_at hr i hi) (List.mem_of_mem_take h)
    omega
theorem MkJ.succ {t : List S28} {n i j k : Nat} (h : i < t.length) (hj : j < (t[i]'h).f3.length) {c : Nat} (hc : (t[i]'h).f3[j]'hj = (c : Int)) : MkJ t n i (j + 1) k ↔ MkJ t n i j k ∨ (k = c ∧ Bl t n i) := by
  unfold MkJ
  have e : ((t[i]'h).f3).take (j + 1) = ((t[i]'h).f3).take j ++ [(c : Int)] := by rw [List.take_succ_eq_append_getElem hj, hc]
  constructor
  · rintro (h1 | ⟨h1, h2, h3⟩)
    · exact Or.inl (Or.inl h1)
    · rw [e] at h3
      rcases List.mem_append.1 h3 with h3 | h3
      · exact Or.inl (Or.inr ⟨h1, h2, h3⟩)
      · have := List.mem_singleton.1 h3
        exact Or.inr ⟨by omega, h1⟩
  · rintro ((h1 | ⟨h1, h2, h3⟩) | ⟨rfl, h1⟩)
    · exact Or.inl h1
    · exact Or.inr ⟨h1, h2, by rw [e]; exact List.mem_append_left _ h3⟩
    · exact Or.inr ⟨h1, h, by rw [e]; exact List.mem_append_right _ (List.mem_singleton.2 rfl)⟩
theorem MkJ.done {t : List S28} {n i k : Nat} (hn : i ≤ n) (h : i < t.length) : MkJ t n i (t[i]'h).f3.length k ↔ Mk t n i k := by
  unfold MkJ
  have e : ((t[i]'h).f3).take (t[i]'h).f3.length = (t[i]'h).f3 := List.take_length
  constructor
  · rintro ((rfl | ⟨p, h1, h2, h3, h4, h5⟩) | ⟨h1, h2, h3⟩)
    · exact Or.inl rfl
    · exact Or.inr ⟨p, h1, by omega, h3, h4, h5⟩
    · rw [e] at h3; exact Or.inr ⟨i, h2, Nat.le_refl _, hn, h1, h3⟩
  · rintro (rfl | ⟨p, h1, h2, h3, h4, h5⟩)
    · exact Or.inl (Or.inl rfl)
    · by_cases ep : p = i
      · subst ep; exact Or.inr ⟨h4, h1, by rw [e]; exact h5⟩
      · exact Or.inl (Or.inr ⟨p, h1, by omega, h3, h4, h5⟩)

/-! ### A row of marks -/
open Classical in
/-- A block of n marks. -/
def BA (W : World) (g n : Nat) (p : Nat → Prop) : Prop := W.heap[g]? = some (.cells ((List.range n).map fun k => Value.bool (decide (p k))).toArray 4 (0, 0))
theorem BA.cell {W : World} {g n : Nat} {p : Nat → Prop} (h : BA W g n p) (j : Nat) (hj : j < n) {b : Bool} (hb : b = true ↔ p j) : W.cell? ⟨g, j, none⟩ = some (.bool b) := by
  rw [blk_cell h]
  simp [hj]
  rw [Bool.eq_iff_iff]; simp [hb]
theorem BA.frozen {W : World} {g n : Nat} {p : Nat → Prop} (h : BA W g n p) (j : Nat) : W.frozen? ⟨g, j, none⟩ = false := blk_frozen h j
theorem BA.congr {W : World} {g n : Nat} {p q : Nat → Prop} (h : BA W g n p) (he : ∀ k, q k ↔ p k) : BA W g n q := by
  have : q = p := funext fun k => propext (he k)
  rw [this]; exact h
theorem BA.put {W : World} {g n : Nat} {p q : Nat → Prop} (h : BA W g n p) (j : Nat) {b : Bool} (hb : b = true ↔ q j) (hq : ∀ k, k ≠ j → (q k ↔ p k)) : BA (W.setCell ⟨g, j, none⟩ (.bool b)) g n q := by
  refine blk_put h j _ ?_
  rw [List.setIfInBounds_toArray]
  congr 1
  apply List.ext_getElem
  · simp
  · intro i h1 h2
    rw [List.getElem_set]
    simp only [List.getElem_map, List.getElem_range]
    by_cases e : j = i
    · subst e
      rw [if_pos rfl]
      congr 1
      rw [Bool.eq_iff_iff]; simp [hb]
    · rw [if_neg e]
      congr 1
      rw [Bool.eq_iff_iff]; simp [hq i (fun h => e h.symm)]
theorem BA.below {W W' : World} {g n : Nat} {p : Nat → Prop} (h : BA W g n p) (hb : Below W.heap.size W W') : BA W' g n p := blk_below h hb
theorem BA.drewN {W : World} {g n : Nat} {p : Nat → Prop} (h : BA W g n p) (m : Nat) : BA (W.drewN m) g n p := h
theorem BA.made (W : World) (m : Nat) : BA (W.alloc (.cells (madeCells #[.bool false] m) 4)) W.heap.size m (fun _ => False) := by
  unfold BA
  rw [blk_new]
  congr 2
  apply Array.ext'
  apply List.ext_getElem
  · simp [madeCells]
  · intro i h1 h2
    simp [madeCells, Nat.mod_one]
end Go.Proofs.YtjhinklijopobaaDoor.Co
