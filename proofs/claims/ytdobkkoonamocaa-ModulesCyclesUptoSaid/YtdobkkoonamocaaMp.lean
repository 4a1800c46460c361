namespace Go.Proofs.Ytdobkkoonamocaa.Mo

/-- The best of the first k: of those that P takes the first that none is smaller than. -/
def bestK (P : Nat → Bool) (lt : Nat → Nat → Bool) : Nat → Int
  | 0 => -1
  | k + 1 => if P k && (decide (bestK P lt k < 0) || lt k (bestK P lt k).toNat) then (k : Int) else bestK P lt k

theorem bestK_lt (P : Nat → Bool) (lt : Nat → Nat → Bool) : ∀ k, -1 ≤ bestK P lt k ∧ bestK P lt k < (k : Int) ∧ (0 ≤ bestK P lt k → P (bestK P lt k).toNat = true)
  | 0 => by simp [bestK]
  | k + 1 => by
    obtain ⟨h1, h2, h3⟩ := bestK_lt P lt k
    rw [bestK]
    by_cases h : (P k && (decide (bestK P lt k < 0) || lt k (bestK P lt k).toNat)) = true
    · rw [if_pos h]
      refine ⟨by omega, by omega, fun _ => ?_⟩
      rw [Int.toNat_natCast]
      exact (Bool.and_eq_true _ _ ▸ h).1
    · rw [if_neg h]
      exact ⟨h1, by omega, h3⟩
theorem bestK_congr {P Q : Nat → Bool} (lt : Nat → Nat → Bool) : ∀ k, (∀ i, i < k → P i = Q i) → bestK P lt k = bestK Q lt k
  | 0, _ => rfl
  | k + 1, h => by rw [bestK, bestK, bestK_congr lt k (fun i hi => h i (by omega)), h k (by omega)]

section
variable (n : Nat) (nm : Nat → List UInt8) (im : Nat → List (List UInt8))

/-- A name stands among those of some modules. -/
def inD (out : List Nat) (s : List UInt8) : Bool := (out.map nm).any fun x => decide (x = s)
/-- The program's test. -/
def pOk (out : List Nat) (i : Nat) : Bool := !inD nm out (nm i) && !((im i).any fun m => !inD nm out m)
/-- The reference's test by a matrix. -/
def rOk (M : Nat → Nat → Bool) (out : List Nat) (i : Nat) : Bool := !out.contains i && (List.range n).all fun j => !(M i j && (!out.contains j || i == j))

/-- Reached by imports. -/
inductive Reach : Nat → Nat → Prop where
  | one {i j : Nat} : j < n → nm j ∈ im i → Reach i j
  | two {i k j : Nat} : Reach i k → Reach k j → Reach i j

/-- What the matrix is worth. -/
def MatOk (M : Nat → Nat → Bool) : Prop := (∀ i j, i < n → j < n → nm j ∈ im i → M i j = true) ∧ (∀ i j, i < n → j < n → M i j = true → Reach n nm im i j)
/-- The imports of what is done are done. -/
def Closed (out : List Nat) : Prop := ∀ k ∈ out, k < n ∧ ∀ m ∈ im k, m ∈ out.map nm
def Inj : Prop := ∀ i j, i < n → j < n → nm i = nm j → i = j
end

variable {n : Nat} {nm : Nat → List UInt8} {im : Nat → List (List UInt8)}

theorem inD_iff {out : List Nat} {s : List UInt8} : inD nm out s = true ↔ s ∈ out.map nm := by
  unfold inD
  rw [List.any_eq_true]
  constructor
  · rintro ⟨x, hx, h⟩
    rw [← of_decide_eq_true h]
    exact hx
  · intro h
    exact ⟨s, h, by simp⟩

theorem in_iff {out : List Nat} (hi : Inj n nm) (hc : Closed n nm im out) {j : Nat} (hj : j < n) : nm j ∈ out.map nm ↔ j ∈ out := by
  constructor
  · intro h
    obtain ⟨k, hk, he⟩ := List.mem_map.1 h
    rw [← hi k j (hc k hk).1 hj he]
    exact hk
  · intro h
    exact List.mem_map_of_mem h

theorem reach_in {out : List Nat} (hi : Inj n nm) (hc : Closed n nm im out) {i j : Nat} (h : Reach n nm im i j) : (∀ m ∈ im i, m ∈ out.map nm) → j ∈ out := by
  induction h with
  | one hj hm => intro h; exact (in_iff hi hc hj).1 (h _ hm)
  | two _ _ ih1 ih2 => intro h; exact ih2 (hc _ (ih1 h)).2

/-- The two tests agree. -/
theorem ok_same {M : Nat → Nat → Bool} {out : List Nat} (hi : Inj n nm) (hM : MatOk n nm im M) (hc : Closed n nm im out) (hn : ∀ i, i < n → ∀ m ∈ im i, ∃ j, j < n ∧ nm j = m) {i : Nat} (hlt : i < n) : pOk nm im out i = rOk n M out i := by
  rw [Bool.eq_iff_iff]
  unfold pOk rOk
  simp only [Bool.and_eq_true, Bool.not_eq_true', List.all_eq_true, List.mem_range]
  have e1 : inD nm out (nm i) = false ↔ out.contains i = false := by
    rw [← Bool.not_eq_true, ← Bool.not_eq_true, inD_iff, in_iff hi hc hlt, List.contains_iff_mem]
  rw [e1]
  constructor
  · rintro ⟨h1, h2⟩
    have h2' : ∀ m ∈ im i, m ∈ out.map nm := by
      intro m hm
      have := (List.any_eq_false.1 h2) m hm
      rw [← inD_iff]
      simpa using this
    refine ⟨h1, fun j hj => ?_⟩
    by_cases hMij : M i j = true
    · have hjo := reach_in hi hc (hM.2 i j hlt hj hMij) h2'
      have hij : i ≠ j := fun h => by
        subst h
        rw [← Bool.not_eq_true, List.contains_iff_mem] at h1
        exact h1 hjo
      have hjc : out.contains j = true := List.contains_iff_mem.2 hjo
      rw [hjc]
      simp [hij]
    · simp [hMij]
  · rintro ⟨h1, h2⟩
    refine ⟨h1, ?_⟩
    rw [List.any_eq_false]
    intro m hm
    obtain ⟨j, hj, rfl⟩ := hn i hlt m hm
    have hMij := hM.1 i j hlt hj hm
    have h3 := h2 j hj
    rw [hMij] at h3
    have hjc : out.contains j = true := by
      cases hc' : out.contains j with
      | true => rfl
      | false => rw [hc'] at h3; simp at h3
    have : inD nm out (nm j) = true := by rw [inD_iff]; exact List.mem_map_of_mem (List.contains_iff_mem.1 hjc)
    simp [this]

/-- One more module keeps the imports done. -/
theorem closed_snoc {out : List Nat} (hc : Closed n nm im out) {i : Nat} (hlt : i < n) (hp : pOk nm im out i = true) : Closed n nm im (out ++ [i]) := by
  unfold pOk at hp
  simp only [Bool.and_eq_true, Bool.not_eq_true'] at hp
  intro k hk
  rcases List.mem_append.1 hk with hk | hk
  · refine ⟨(hc k hk).1, fun m hm => ?_⟩
    rw [List.map_append]
    exact List.mem_append_left _ ((hc k hk).2 m hm)
  · rw [List.mem_singleton] at hk
    subst hk
    refine ⟨hlt, fun m hm => ?_⟩
    rw [List.map_append]
    refine List.mem_append_left _ ?_
    have := (List.any_eq_false.1 hp.2) m hm
    rw [← inD_iff]
    simpa using this
theorem closed_nil : Closed n nm im [] := fun k hk => by cases hk

/-- The order of so many modules behind those that have come; none: a cycle. -/
def ord (T : List Nat → Nat → Bool) (lt : Nat → Nat → Bool) (n : Nat) : Nat → List Nat → Option (List Nat)
  | 0, out => some out
  | d + 1, out => if bestK (T out) lt n < 0 then none else ord T lt n d (out ++ [(bestK (T out) lt n).toNat])

theorem ord_same {M : Nat → Nat → Bool} (hi : Inj n nm) (hM : MatOk n nm im M) (hn : ∀ i, i < n → ∀ m ∈ im i, ∃ j, j < n ∧ nm j = m) (lt : Nat → Nat → Bool) : ∀ d out, Closed n nm im out → ord (pOk nm im) lt n d out = ord (rOk n M) lt n d out
  | 0, _, _ => rfl
  | d + 1, out, hc => by
    have he : bestK (pOk nm im out) lt n = bestK (rOk n M out) lt n := bestK_congr lt n (fun i hlt => ok_same hi hM hc hn hlt)
    rw [ord, ord, he]
    by_cases h : bestK (rOk n M out) lt n < 0
    · rw [if_pos h, if_pos h]
    · rw [if_neg h, if_neg h]
      refine ord_same hi hM hn lt d _ ?_
      obtain ⟨h1, h2, h3⟩ := bestK_lt (pOk nm im out) lt n
      rw [← he] at h ⊢
      exact closed_snoc hc (by omega) (h3 (by omega))
end Go.Proofs.Ytdobkkoonamocaa.Mo
