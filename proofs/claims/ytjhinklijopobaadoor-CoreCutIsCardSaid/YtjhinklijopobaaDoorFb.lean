import Derived.Test.YtjhinklijopobaaDoorGCC8
namespace Go.Proofs.YtjhinklijopobaaDoor.Co
open Go.RowKit Go.Proofs.YtjhinklijopobaaDoor.PCoreChecks Go.Proofs.YtjhinklijopobaaDoorW.PrintWords Go.Proofs.YtjhinklijopobaaDoorW.PrintLast Go.Proofs.YtjhinklijopobaaDoorW.PrintMore
set_option linter.unusedVariables false
set_option linter.unusedSimpArgs false

/-! ### At or below a node -/
/-- Node k is node n or stands below it. -/
inductive Bl (t : List S28) (n : Nat) : Nat → Prop
  | self : Bl t n n
  | kid (i : Nat) (h : i < t.length) (k : Nat) : Bl t n i → (k : Int) ∈ (t[i]'h).f3 → Bl t n k
theorem Bl.le {t : List S28} (hr : rB t = true) {n k : Nat} (h : Bl t n k) : k ≤ n := by
  induction h with
  | self => exact Nat.le_refl _
  | kid i hi k _ hm ih =>
    have := badK_mem (rB_at hr i hi) hm
    omega
theorem Bl.trans {t : List S28} {a b k : Nat} (h1 : Bl t a b) (h2 : Bl t b k) : Bl t a k := by
  induction h2 with
  | self => exact h1
  | kid i hi k _ hm ih => exact Bl.kid i hi k ih hm
/-- Of two nodes above a node, one is above the other. -/
theorem Bl.two {t : List S28} (ht : treeB t = true) {a b k : Nat} (h1 : Bl t a k) (h2 : Bl t b k) : Bl t a b ∨ Bl t b a := by
  induction h1 with
  | self => exact Or.inr h2
  | kid i hi k h hm ih =>
    cases h2 with
    | self => exact Or.inl (Bl.kid i hi _ h hm)
    | kid j hj _ h3 hm3 =>
      have e := one_parent ht hi hj hm hm3
      subst e
      exact ih h3
/-- Two kids of a node have nothing in common. -/
theorem Bl.apart {t : List S28} (ht : treeB t = true) {i : Nat} (hi : i < t.length) {a b k : Nat} (ha : (a : Int) ∈ (t[i]'hi).f3) (hb : (b : Int) ∈ (t[i]'hi).f3) (h1 : Bl t a k) (h2 : Bl t b k) : a = b := by
  have hr := (treeB_parts ht).2.1
  have key : ∀ a b : Nat, (a : Int) ∈ (t[i]'hi).f3 → (b : Int) ∈ (t[i]'hi).f3 → Bl t a b → a = b := by
    intro a b ha hb h
    cases h with
    | self => rfl
    | kid j hj _ h3 hm3 =>
      have e := one_parent ht hi hj hb hm3
      subst e
      have h4 := h3.le hr
      have := badK_mem (rB_at hr i hi) ha
      omega
  rcases Bl.two ht h1 h2 with h | h
  · exact key a b ha hb h
  · exact (key b a hb ha h).symm
/-- Below one of the first j kids. -/
def BlK (t : List S28) (i j k : Nat) : Prop := ∃ (h : i < t.length) (j' : Nat) (hj : j' < (t[i]'h).f3.length) (c : Nat), j' < j ∧ (t[i]'h).f3[j']'hj = (c : Int) ∧ Bl t c k
theorem BlK.zero {t : List S28} {i k : Nat} : ¬ BlK t i 0 k := by rintro ⟨_, _, _, _, h, _⟩; omega
theorem BlK.succ {t : List S28} {i : Nat} (h : i < t.length) {j : Nat} (hj : j < (t[i]'h).f3.length) {c : Nat} (hc : (t[i]'h).f3[j]'hj = (c : Int)) {k : Nat} : BlK t i (j + 1) k ↔ BlK t i j k ∨ Bl t c k := by
  constructor
  · rintro ⟨h1, j', hj', c', h2, h3, h4⟩
    by_cases e : j' = j
    · subst e
      rw [hc] at h3
      have : c = c' := by omega
      subst this
      exact Or.inr h4
    · exact Or.inl ⟨h1, j', hj', c', by omega, h3, h4⟩
  · rintro (⟨h1, j', hj', c', h2, h3, h4⟩ | h4)
    · exact ⟨h1, j', hj', c', by omega, h3, h4⟩
    · exact ⟨h, j, hj, c, by omega, hc, h4⟩
theorem BlK.apart {t : List S28} (ht : treeB t = true) {i : Nat} (h : i < t.length) {j : Nat} (hj : j < (t[i]'h).f3.length) {c : Nat} (hc : (t[i]'h).f3[j]'hj = (c : Int)) {k : Nat} : ¬ (BlK t i j k ∧ Bl t c k) := by
  rintro ⟨⟨h1, j', hj', c', h2, h3, h4⟩, h5⟩
  have e := Bl.apart ht h (a := c') (b := c) (by rw [← h3]; exact List.getElem_mem _) (by rw [← hc]; exact List.getElem_mem _) h4 h5
  subst e
  have := kid_once ht h hj' hj (by rw [h3, hc])
  omega
theorem Bl_iff {t : List S28} {i : Nat} (h : i < t.length) {k : Nat} : Bl t i k ↔ k = i ∨ BlK t i (t[i]'h).f3.length k := by
  constructor
  · intro hb
    induction hb with
    | self => exact Or.inl rfl
    | kid j hj k h1 hm ih =>
      obtain ⟨a, ha, hk⟩ := List.mem_iff_getElem.1 hm
      rcases ih with rfl | ⟨h1, j', hj', c, h2, h3, h4⟩
      · exact Or.inr ⟨hj, a, ha, k, ha, hk, Bl.self⟩
      · exact Or.inr ⟨h1, j', hj', c, h2, h3, Bl.kid j hj k h4 hm⟩
  · rintro (rfl | ⟨h1, j', hj', c, h2, h3, h4⟩)
    · exact Bl.self
    · exact (Bl.kid i h c Bl.self (by rw [← h3]; exact List.getElem_mem _)).trans h4
open Classical in
/-- How many of the first n numbers are of a kind. -/
noncomputable def cn (n : Nat) (p : Nat → Prop) : Nat := ((List.range n).filter fun k => decide (p k)).length
theorem filt_or {α : Type} (p q r : α → Bool) (l : List α) (h : ∀ x, p x = (q x || r x)) (hd : ∀ x, ¬ (q x = true ∧ r x = true)) : (l.filter p).length = (l.filter q).length + (l.filter r).length := by
  induction l with
  | nil => rfl
  | cons a l ih =>
    have h1 := h a
    have h2 := hd a
    cases hq : q a <;> cases hr : r a <;> rw [hq, hr] at h1 h2 <;> simp_all <;> omega
theorem cn_or {n : Nat} {p q r : Nat → Prop} (h : ∀ k, p k ↔ q k ∨ r k) (hd : ∀ k, ¬ (q k ∧ r k)) : cn n p = cn n q + cn n r := by
  unfold cn
  refine filt_or _ _ _ _ (fun x => ?_) (fun x => ?_)
  · rw [Bool.eq_iff_iff]; simp [h x]
  · simpa using hd x
theorem cn_none {n : Nat} {p : Nat → Prop} (h : ∀ k, ¬ p k) : cn n p = 0 := by
  unfold cn
  rw [List.length_eq_zero_iff, List.filter_eq_nil_iff]
  intro a _
  simpa using h a
theorem cn_congr {n : Nat} {p q : Nat → Prop} (h : ∀ k, p k ↔ q k) : cn n p = cn n q := by
  unfold cn
  congr 1
  refine List.filter_congr fun x _ => ?_
  rw [Bool.eq_iff_iff]; simp [h x]
theorem cn_le (n : Nat) (p : Nat → Prop) : cn n p ≤ n := by
  have h := List.length_filter_le (fun k => @decide (p k) (Classical.propDecidable _)) (List.range n)
  rw [List.length_range] at h
  exact h
theorem cn_succ_yes {n : Nat} {p : Nat → Prop} (h : p n) : cn (n + 1) p = cn n p + 1 := by
  unfold cn
  rw [List.range_succ, List.filter_append, List.length_append]
  simp [h]
theorem cn_succ_no {n : Nat} {p : Nat → Prop} (h : ¬ p n) : cn (n + 1) p = cn n p := by
  unfold cn
  rw [List.range_succ, List.filter_append, List.length_append]
  simp [h]
theorem cn_one {n i : Nat} (h : i < n) : cn n (fun k => k = i) = 1 := by
  induction n with
  | zero => omega
  | succ n ih =>
    by_cases e : i = n
    · subst e
      rw [cn_succ_yes (p := fun k => k = i) rfl]
      have : cn i (fun k => k = i) = 0 := by
        unfold cn
        rw [List.length_eq_zero_iff, List.filter_eq_nil_iff]
        intro a ha
        have := List.mem_range.1 ha
        simp; omega
      omega
    · rw [cn_succ_no (p := fun k => k = i) (fun h => e h.symm)]
      exact ih (by omega)
/-- The number of nodes at and below a node. -/
noncomputable def cntB (t : List S28) (n : Nat) : Nat := cn t.length (Bl t n)
noncomputable def cntK (t : List S28) (i j : Nat) : Nat := cn t.length (BlK t i j)
theorem cntK_zero (t : List S28) (i : Nat) : cntK t i 0 = 0 := cn_none fun _ => BlK.zero
theorem cntK_succ {t : List S28} (ht : treeB t = true) {i : Nat} (h : i < t.length) {j : Nat} (hj : j < (t[i]'h).f3.length) {c : Nat} (hc : (t[i]'h).f3[j]'hj = (c : Int)) : cntK t i (j + 1) = cntK t i j + cntB t c :=
  cn_or (fun _ => BlK.succ h hj hc) (fun _ => BlK.apart ht h hj hc)
theorem cntB_eq {t : List S28} (ht : treeB t = true) {i : Nat} (h : i < t.length) : cntB t i = 1 + cntK t i (t[i]'h).f3.length := by
  unfold cntB cntK
  rw [cn_or (q := fun k => k = i) (r := BlK t i (t[i]'h).f3.length) (fun k => Bl_iff h), cn_one h]
  rintro k ⟨rfl, h1, j', hj', c, h2, h3, h4⟩
  have hr := (treeB_parts ht).2.1
  have := h4.le hr
  have := badK_mem (rB_at hr k h) (List.getElem_mem hj')
  omega
theorem cntK_le (t : List S28) (i j : Nat) : cntK t i j ≤ t.length := cn_le _ _
end Go.Proofs.YtjhinklijopobaaDoor.Co
