/- The plain law of ModulesAfter: no program in sight. -/
import Derived.Lib.SlicesCompact
import Derived.Test.YtdobkkoonamocaaMp
namespace Go.Proofs.Ytdobkkoonamocaa.Mo
open Go.Lib
abbrev Str := List UInt8
def leS (x y : Str) : Bool := decide (x ≤ y)
theorem leS_trans (a b c : Str) (h : leS a b = true) (k : leS b c = true) : leS a c = true := decide_eq_true (List.le_trans (of_decide_eq_true h) (of_decide_eq_true k))
theorem leS_total (a b : Str) : (leS a b || leS b a) = true := by
  rcases List.le_total a b with h | h <;> simp [leS, h]
theorem sorted_ (l : List Str) : List.Pairwise (fun a b => a ≤ b) (l.mergeSort leS) := by
  have := List.pairwise_mergeSort leS_trans leS_total l
  exact this.imp (fun h => of_decide_eq_true h)
theorem mem_sort (l : List Str) (e : Str) : e ∈ l.mergeSort leS ↔ e ∈ l := (List.mergeSort_perm l leS).mem_iff
theorem upTo_mem (d : Array Str) : ∀ m e, e ∈ compactUpTo d m ↔ ∃ j, j < m ∧ d[j]! = e
  | 0, e => by simp [compactUpTo]
  | m + 1, e => by
    rw [compactUpTo_succ, List.mem_append, upTo_mem d m e]
    by_cases hk : keeps d m = true
    · rw [if_pos hk, List.mem_singleton]
      constructor
      · rintro (⟨j, hj, h⟩ | h)
        · exact ⟨j, by omega, h⟩
        · exact ⟨m, by omega, h.symm⟩
      · rintro ⟨j, hj, h⟩
        rcases Nat.lt_or_eq_of_le (Nat.le_of_lt_succ hj) with h1 | rfl
        · exact .inl ⟨j, h1, h⟩
        · exact .inr h.symm
    · rw [if_neg hk]
      unfold keeps at hk
      have hk' : ¬ (m = 0 ∨ d[m]! ≠ d[m - 1]!) := fun h => hk (decide_eq_true h)
      have hm : m ≠ 0 := fun h => hk' (.inl h)
      have he : d[m]! = d[m - 1]! := Classical.byContradiction fun h => hk' (.inr h)
      constructor
      · rintro (⟨j, hj, h⟩ | h)
        · exact ⟨j, by omega, h⟩
        · cases h
      · rintro ⟨j, hj, h⟩
        rcases Nat.lt_or_eq_of_le (Nat.le_of_lt_succ hj) with h1 | rfl
        · exact .inl ⟨j, h1, h⟩
        · exact .inl ⟨j - 1, by omega, by rw [← he]; exact h⟩
theorem upTo_sorted (d : Array Str) (hd : ∀ i j, i < j → j < d.size → d[i]! ≤ d[j]!) : ∀ m, m ≤ d.size → List.Pairwise (fun a b => a ≤ b ∧ a ≠ b) (compactUpTo d m)
  | 0, _ => by simp [compactUpTo]
  | m + 1, hm => by
    rw [compactUpTo_succ]
    by_cases hk : keeps d m = true
    · rw [if_pos hk, List.pairwise_append]
      refine ⟨upTo_sorted d hd m (by omega), List.pairwise_singleton _ _, fun a ha b hb => ?_⟩
      obtain rfl := List.mem_singleton.1 hb
      obtain ⟨j, hj, rfl⟩ := (upTo_mem d m a).1 ha
      refine ⟨hd j m hj (by omega), fun he => ?_⟩
      unfold keeps at hk
      rcases of_decide_eq_true hk with h | h
      · omega
      · apply h
        have h1 : d[m - 1]! ≤ d[m]! := hd (m - 1) m (by omega) (by omega)
        have h2 : d[j]! ≤ d[m - 1]! := by
          rcases Nat.lt_or_eq_of_le (show j ≤ m - 1 by omega) with h3 | h3
          · exact hd j (m - 1) h3 (by omega)
          · rw [h3]; exact List.le_refl _
        rw [he] at h2
        exact List.le_antisymm h2 h1
    · rw [if_neg hk, List.append_nil]
      exact upTo_sorted d hd m (by omega)
theorem compact_mem (zs : List Str) (e : Str) : e ∈ compact zs ↔ e ∈ zs := by
  unfold compact
  rw [upTo_mem]
  constructor
  · rintro ⟨j, hj, rfl⟩
    simp [hj]
  · intro h
    obtain ⟨j, hj, rfl⟩ := List.mem_iff_getElem.1 h
    exact ⟨j, hj, by simp [hj]⟩
theorem compact_sorted (zs : List Str) (h : List.Pairwise (fun a b => a ≤ b) zs) : List.Pairwise (fun a b => a ≤ b ∧ a ≠ b) (compact zs) := by
  unfold compact
  refine upTo_sorted _ (fun i j hij hj => ?_) _ (by simp)
  have hj' : j < zs.length := by simpa using hj
  have hi' : i < zs.length := by omega
  have := List.pairwise_iff_getElem.1 h i j hi' hj' hij
  simpa [hi', hj'] using this
/-- What is sorted and cut of its doubles is what is sorted without doubles. -/
theorem sort_same {a b : List Str} (hb : b.Nodup) (h : ∀ e, e ∈ a ↔ e ∈ b) : compact (a.mergeSort leS) = b.mergeSort leS := by
  have h1 := compact_sorted _ (sorted_ a)
  have hn : (b.mergeSort leS).Nodup := (List.mergeSort_perm b leS).nodup_iff.2 hb
  refine List.Perm.eq_of_pairwise (le := fun a b => a ≤ b) (fun x y _ _ hx hy => List.le_antisymm hx hy) (h1.imp (fun h => h.1)) (sorted_ b) ?_
  refine (List.perm_ext_iff_of_nodup (h1.imp (fun h => h.2)) hn).2 fun e => ?_
  rw [compact_mem, mem_sort, mem_sort, h]

section
variable (n : Nat) (nm : Nat → Str) (im : Nat → List Str)
/-- What the program gathers. -/
structure AfterOk (C out : List Str) : Prop where
  has : ∀ m ∈ C, m ∈ out
  just : ∀ e ∈ out, ∃ i, i < n ∧ nm i = e ∧ (nm i ∈ C ∨ ∃ j, j < n ∧ Reach n nm im i j ∧ nm j ∈ C)
  full : ∀ i, i < n → ∀ m ∈ im i, m ∈ out → nm i ∈ out
/-- What the reference tests. -/
def afterB (M : Nat → Nat → Bool) (C : List Str) (i : Nat) : Bool := C.contains (nm i) || (List.range n).any fun j => M i j && C.contains (nm j)
def afterL (M : Nat → Nat → Bool) (C : List Str) : List Str := ((List.range n).filter (afterB n nm M C)).map nm
end
variable {n : Nat} {nm : Nat → Str} {im : Nat → List Str}
theorem after_nodup (hi : Inj n nm) (M : Nat → Nat → Bool) (C : List Str) : (afterL n nm M C).Nodup := by
  unfold afterL List.Nodup
  rw [List.pairwise_map]
  have h := (List.nodup_range (n := n)).filter (afterB n nm M C)
  refine List.Pairwise.imp_of_mem ?_ h
  intro a b ha hb hne he
  exact hne (hi a b (List.mem_range.1 (List.mem_filter.1 ha).1) (List.mem_range.1 (List.mem_filter.1 hb).1) he)
theorem reach_lt {i j : Nat} (h : Reach n nm im i j) : j < n := by
  induction h with
  | one hj _ => exact hj
  | two _ _ _ ih => exact ih
theorem reach_full {C out : List Str} (h : AfterOk n nm im C out) {i j : Nat} (hr : Reach n nm im i j) : i < n → nm j ∈ out → nm i ∈ out := by
  induction hr with
  | one hj hm => intro hi ho; exact h.full _ hi _ hm ho
  | two h1 h2 ih1 ih2 => intro hi ho; exact ih1 hi (ih2 (reach_lt h1) ho)
theorem after_mem {M : Nat → Nat → Bool} {C out : List Str} (hM : MatOk n nm im M) (h : AfterOk n nm im C out) (hR : ∀ i j, i < n → j < n → Reach n nm im i j → M i j = true) (e : Str) : e ∈ out ↔ e ∈ afterL n nm M C := by
  unfold afterL
  rw [List.mem_map]
  constructor
  · intro he
    obtain ⟨i, hi, rfl, hc⟩ := h.just e he
    refine ⟨i, List.mem_filter.2 ⟨List.mem_range.2 hi, ?_⟩, rfl⟩
    unfold afterB
    rw [Bool.or_eq_true]
    rcases hc with hc | ⟨j, hj, hr, hc⟩
    · exact .inl (by simpa using hc)
    · refine .inr (List.any_eq_true.2 ⟨j, List.mem_range.2 hj, ?_⟩)
      rw [hR i j hi hj hr]
      simpa using hc
  · rintro ⟨i, hf, rfl⟩
    obtain ⟨hr, hb⟩ := List.mem_filter.1 hf
    have hi := List.mem_range.1 hr
    unfold afterB at hb
    rw [Bool.or_eq_true] at hb
    rcases hb with hb | hb
    · exact h.has _ (by simpa using hb)
    · obtain ⟨j, hj, hb⟩ := List.any_eq_true.1 hb
      rw [Bool.and_eq_true] at hb
      exact reach_full h (hM.2 i j hi (List.mem_range.1 hj) hb.1) hi (h.has _ (by simpa using hb.2))

/-- Warshall's matrix within its rounds: closed for the places before k; the rows before i, and row i up to j, are of round k. -/
def ClM (n k : Nat) (M : Nat → Nat → Bool) : Prop := ∀ c, c < k → ∀ i j, i < n → j < n → M i c = true → M c j = true → M i j = true
def nextM (M : Nat → Nat → Bool) (k : Nat) (a b : Nat) : Bool := M a b || (M a k && M k b)
def WS (n k i j : Nat) (M : Nat → Nat → Bool) : Prop := ∃ M0, ClM n k M0 ∧ ∀ a b, a < n → b < n → M a b = if a < i ∨ (a = i ∧ b < j) then nextM M0 k a b else M0 a b
theorem WS.start (n : Nat) (M : Nat → Nat → Bool) : WS n 0 0 0 M :=
  ⟨M, fun c hc => absurd hc (Nat.not_lt_zero _), fun a b _ _ => by rw [if_neg (by omega)]⟩
theorem WS.read {n k i j : Nat} {M M0 : Nat → Nat → Bool} (h : ∀ a b, a < n → b < n → M a b = if a < i ∨ (a = i ∧ b < j) then nextM M0 k a b else M0 a b) (hk : k < n) {a b : Nat} (ha : a < n) (hb : b < n) (hab : a = k ∨ b = k) : M a b = M0 a b := by
  rw [h a b ha hb]
  split
  · unfold nextM
    rcases hab with rfl | rfl
    · cases M0 a b <;> cases M0 a a <;> rfl
    · cases M0 a b <;> cases M0 b b <;> rfl
  · rfl
theorem WS.skip {n k i j : Nat} {M : Nat → Nat → Bool} (h : WS n k i j M) (hk : k < n) (hi : i < n) (hj : j < n) (hf : (M i k && M k j) = false) : WS n k i (j + 1) M := by
  obtain ⟨M0, hc, hm⟩ := h
  refine ⟨M0, hc, fun a b ha hb => ?_⟩
  rw [WS.read hm hk hi hk (.inr rfl), WS.read hm hk hk hj (.inl rfl)] at hf
  rw [hm a b ha hb]
  by_cases hab : a = i ∧ b = j
  · obtain ⟨rfl, rfl⟩ := hab
    rw [if_neg (by omega), if_pos (by omega), nextM, hf, Bool.or_false]
  · by_cases h2 : a < i ∨ (a = i ∧ b < j)
    · rw [if_pos h2, if_pos (by omega)]
    · rw [if_neg h2, if_neg (by omega)]
theorem WS.set {n k i j : Nat} {M : Nat → Nat → Bool} (h : WS n k i j M) (hk : k < n) (hi : i < n) (hj : j < n) (hf : (M i k && M k j) = true) : WS n k i (j + 1) (fun a b => if a = i ∧ b = j then true else M a b) := by
  obtain ⟨M0, hc, hm⟩ := h
  refine ⟨M0, hc, fun a b ha hb => ?_⟩
  rw [WS.read hm hk hi hk (.inr rfl), WS.read hm hk hk hj (.inl rfl)] at hf
  by_cases hab : a = i ∧ b = j
  · obtain ⟨rfl, rfl⟩ := hab
    show (if a = a ∧ b = b then true else M a b) = _
    rw [if_pos (show a = a ∧ b = b from ⟨rfl, rfl⟩), if_pos (show a < a ∨ (a = a ∧ b < b + 1) from .inr ⟨rfl, Nat.lt_succ_self b⟩), nextM, hf, Bool.or_true]
  · show (if a = i ∧ b = j then true else M a b) = _
    rw [if_neg hab, hm a b ha hb]
    by_cases h2 : a < i ∨ (a = i ∧ b < j)
    · rw [if_pos h2, if_pos (by omega)]
    · rw [if_neg h2, if_neg (by omega)]
theorem WS.row {n k i : Nat} {M : Nat → Nat → Bool} (h : WS n k i n M) : WS n k (i + 1) 0 M := by
  obtain ⟨M0, hc, hm⟩ := h
  refine ⟨M0, hc, fun a b ha hb => ?_⟩
  rw [hm a b ha hb]
  by_cases h2 : a < i ∨ (a = i ∧ b < n)
  · rw [if_pos h2, if_pos (by omega)]
  · rw [if_neg h2, if_neg (by omega)]
theorem WS.round {n k : Nat} {M : Nat → Nat → Bool} (h : WS n k n 0 M) (hk : k < n) : WS n (k + 1) 0 0 M := by
  obtain ⟨M0, hc, hm⟩ := h
  have hM : ∀ a b, a < n → b < n → M a b = nextM M0 k a b := fun a b ha hb => by rw [hm a b ha hb, if_pos (by omega)]
  refine ⟨M, fun c hck i j hi hj h1 h2 => ?_, fun a b _ _ => by rw [if_neg (by omega)]⟩
  have hcn : c < n := by omega
  rw [hM i c hi hcn, nextM, Bool.or_eq_true, Bool.and_eq_true] at h1
  rw [hM c j hcn hj, nextM, Bool.or_eq_true, Bool.and_eq_true] at h2
  rw [hM i j hi hj, nextM, Bool.or_eq_true, Bool.and_eq_true]
  rcases Nat.lt_or_eq_of_le (Nat.le_of_lt_succ hck) with hlt | rfl
  · rcases h1 with h1 | ⟨h1, h1'⟩ <;> rcases h2 with h2 | ⟨h2, h2'⟩
    · exact .inl (hc c hlt i j hi hj h1 h2)
    · exact .inr ⟨hc c hlt i k hi hk h1 h2, h2'⟩
    · exact .inr ⟨h1, hc c hlt k j hk hj h1' h2⟩
    · exact .inr ⟨h1, h2'⟩
  · refine .inr ⟨?_, ?_⟩
    · rcases h1 with h1 | ⟨h1, _⟩ <;> exact h1
    · rcases h2 with h2 | ⟨_, h2⟩ <;> exact h2
theorem WS.done {n : Nat} {M : Nat → Nat → Bool} (h : WS n n 0 0 M) : ClM n n M := by
  obtain ⟨M0, hc, hm⟩ := h
  intro c hcn i j hi hj h1 h2
  rw [hm _ _ hi hcn, if_neg (by omega)] at h1
  rw [hm _ _ hcn hj, if_neg (by omega)] at h2
  rw [hm _ _ hi hj, if_neg (by omega)]
  exact hc c hcn i j hi hj h1 h2
/-- With a closed matrix what is reached is marked. -/
theorem reach_mat {M : Nat → Nat → Bool} (hM : MatOk n nm im M) (hc : ClM n n M) {i j : Nat} (h : Reach n nm im i j) : i < n → M i j = true := by
  induction h with
  | one hj hm => intro hi; exact hM.1 _ _ hi hj hm
  | two h1 h2 ih1 ih2 => intro hi; exact hc _ (reach_lt h1) _ _ hi (reach_lt h2) (ih1 hi) (ih2 (reach_lt h1))
/-- The law of ModulesAfter: what the program answers is what the reference answers. -/
theorem after_same {M : Nat → Nat → Bool} {C out : List Str} (hi : Inj n nm) (hM : MatOk n nm im M) (hc : ClM n n M) (h : AfterOk n nm im C out) : compact (out.mergeSort leS) = (afterL n nm M C).mergeSort leS :=
  sort_same (after_nodup hi M C) (after_mem hM h (fun _ _ h1 _ hr => reach_mat hM hc hr h1))
end Go.Proofs.Ytdobkkoonamocaa.Mo
