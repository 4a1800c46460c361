/- The reference's small functions, in plain lists (the topmost frame first). -/
import Derived.Test.YtchbjjefjmcakaaLk
import Derived.Test.YtchbjjefjmcakaaPLayoutBlocksx5
import Derived.Test.YtchbjjefjmcakaaPLayoutBlocksx6
namespace Go.Proofs.Ytchbjjefjmcakaa.Lb
open Go.RowKit Go.Proofs.Ytchbjjefjmcakaa.PLayoutBlocks Go.Proofs.YtchbjjefjmcakaaW.PrintWords Go.Proofs.YtchbjjefjmcakaaW.PrintLast Go.Proofs.YtchbjjefjmcakaaW.PrintMore
set_option linter.unusedVariables false
def f48 (x : Fr) : S48 := ⟨x.1, x.2⟩
theorem rd48 {l : List Fr} {i : Nat} {y : Fr} (h : l[i]? = some y) : rd_T48 (l.map f48) (i : Int) = f48 y := by
  unfold rd_T48
  rw [Int.toNat_natCast, List.getD_eq_getElem?_getD, List.getElem?_map, h]; rfl
theorem take_rev {l : List Fr} {n : Nat} {y : Fr} (h : l[n]? = some y) : (l.take (n + 1)).reverse = y :: (l.take n).reverse := by
  obtain ⟨hl, rfl⟩ := List.getElem?_eq_some_iff.1 h
  rw [List.take_succ_eq_append_getElem hl, List.reverse_append]; rfl
theorem w64d (n : Nat) (h : n < 1000000) : wrap64 (((n : Nat) : Int) - 1) = (n : Int) - 1 := by unfold wrap64; omega
theorem inner_l0 (l : List Fr) (hl : l.length < 1000000) : ∀ n, n ≤ l.length → ∀ k, n < k → provenanceref1_innermost.l0 k (l.map f48) ((n : Int) - 1) = some (encR (l.take n).reverse) := by
  intro n
  induction n with
  | zero =>
    intro _ k hk
    obtain ⟨k, rfl⟩ : ∃ m, k = m + 1 := ⟨k - 1, by omega⟩
    simp only [provenanceref1_innermost.l0]
    rw [if_neg (by omega)]; rfl
  | succ n ih =>
    intro hn k hk
    obtain ⟨k, rfl⟩ : ∃ m, k = m + 1 := ⟨k - 1, by omega⟩
    obtain ⟨y, hy⟩ : ∃ y, l[n]? = some y := ⟨_, List.getElem?_eq_getElem (by omega)⟩
    rw [show (((n + 1 : Nat)) : Int) - 1 = (n : Int) by omega]
    simp only [provenanceref1_innermost.l0]
    rw [if_pos (by omega), if_pos (by omega), if_pos (by rw [List.length_map]; omega), rd48 hy, w64d n (by omega), take_rev hy]
    show (if y.1 > 0 then _ else _) = some (if 0 < y.1 then y.1 else encR (l.take n).reverse)
    by_cases h : 0 < y.1
    · rw [if_pos h, if_pos h]; rfl
    · rw [if_neg h, if_neg h]; exact ih (by omega) k (by omega)
theorem inner_f (l : List Fr) (hl : l.length < 1000000) : ∃ k, provenanceref1_innermost.f k (l.map f48) = some (encR l.reverse) := by
  refine ⟨l.length + 1, ?_⟩
  unfold provenanceref1_innermost.f
  rw [List.length_map, w64d _ hl]
  have h := inner_l0 l hl l.length (Nat.le_refl _) (l.length + 1) (Nat.lt_succ_self _)
  rwa [List.take_length] at h
/-- The blocks above the innermost bracket. -/
abbrev bkR (r : List Fr) : List Fr := r.takeWhile fun c => decide (0 < c.1)
theorem blocks_l0 (l : List Fr) (hl : l.length < 1000000) : ∀ n, n ≤ l.length → ∀ (acc : List S48) k, n < k → acc.length + n < 2000000 → provenanceref1_blocks.l0 k (l.map f48) acc ((n : Int) - 1) = some (acc ++ (bkR (l.take n).reverse).map f48) := by
  intro n
  induction n with
  | zero =>
    intro _ acc k hk _
    obtain ⟨k, rfl⟩ : ∃ m, k = m + 1 := ⟨k - 1, by omega⟩
    simp only [provenanceref1_blocks.l0]
    rw [if_neg (by omega)]; simp [bkR]
  | succ n ih =>
    intro hn acc k hk ha
    obtain ⟨k, rfl⟩ : ∃ m, k = m + 1 := ⟨k - 1, by omega⟩
    obtain ⟨y, hy⟩ : ∃ y, l[n]? = some y := ⟨_, List.getElem?_eq_getElem (by omega)⟩
    rw [show (((n + 1 : Nat)) : Int) - 1 = (n : Int) by omega]
    simp only [provenanceref1_blocks.l0]
    rw [if_pos (by omega), if_pos (by omega), if_pos (by rw [List.length_map]; omega), rd48 hy, w64d n (by omega), take_rev hy]
    unfold bkR
    rw [List.takeWhile_cons]
    show (if y.1 > 0 then _ else _) = _
    by_cases h : 0 < y.1
    · rw [if_pos h, if_pos (by omega), if_pos (decide_eq_true h)]
      have h2 := ih (by omega) (acc ++ [f48 y]) k (by omega) (by rw [List.length_append, List.length_singleton]; omega)
      rw [List.append_assoc] at h2
      exact h2
    · rw [if_neg h, if_neg (by rw [decide_eq_false h]; decide)]; simp
theorem blocks_f (l : List Fr) (hl : l.length < 1000000) (k : Nat) (hk : l.length < k) : provenanceref1_blocks.f k (l.map f48) = some ((bkR l.reverse).map f48) := by
  unfold provenanceref1_blocks.f
  rw [List.length_map, w64d _ hl]
  have h := blocks_l0 l hl l.length (Nat.le_refl _) [] k hk (by simp; omega)
  rwa [List.take_length] at h
/-- As far as the first let. -/
def letF : List Fr → Nat → Nat
  | [], _ => 0
  | c :: r, i => if isLet c then i + 1 else letF r (i + 1)
theorem ends_l0 (b : List Fr) (hb : b.length < 1000000) : ∀ d i, i + d = b.length → ∀ k, d < k → provenanceref1_Ends.l0 k (b.map f48) (b.length : Int) (i : Int) = some (((letF (b.drop i) i : Nat) : Int), false) := by
  intro d
  induction d with
  | zero =>
    intro i hi k hk
    obtain ⟨k, rfl⟩ : ∃ m, k = m + 1 := ⟨k - 1, by omega⟩
    simp only [provenanceref1_Ends.l0]
    rw [if_neg (by omega), List.drop_eq_nil_of_le (by omega)]; rfl
  | succ d ih =>
    intro i hi k hk
    obtain ⟨k, rfl⟩ : ∃ m, k = m + 1 := ⟨k - 1, by omega⟩
    obtain ⟨y, hy⟩ : ∃ y, b[i]? = some y := ⟨_, List.getElem?_eq_getElem (by omega)⟩
    simp only [provenanceref1_Ends.l0]
    rw [if_pos (by omega), if_pos (by omega), if_pos (by rw [List.length_map]; omega), rd48 hy, show wrap64 ((i : Int) + 1) = ((i + 1 : Nat) : Int) by unfold wrap64; omega]
    have hd : b.drop i = y :: b.drop (i + 1) := by
      obtain ⟨hl, rfl⟩ := List.getElem?_eq_some_iff.1 hy
      exact List.drop_eq_getElem_cons hl
    rw [hd]
    show (if y.2.toList = [108, 101, 116] then _ else _) = some (((if isLet y then i + 1 else letF (b.drop (i + 1)) (i + 1) : Nat) : Int), false)
    by_cases h : y.2.toList = [108, 101, 116]
    · rw [if_pos h, if_pos (show isLet y = true from beq_iff_eq.mpr h)]
    · rw [if_neg h, if_neg (show ¬ isLet y = true from fun h2 => h (beq_iff_eq.mp h2))]
      exact ih (i + 1) (by omega) k (by omega)
/-- What Ends answers. -/
def endsR (t : S27) (r : List Fr) : Nat × Bool :=
  if isB t 5 [41] || isB t 5 [125] then ((bkR r).length, decide ((bkR r).length < r.length))
  else if isB t 5 [44] && decide ((bkR r).length < r.length) then ((bkR r).length, false)
  else if isB t 4 [105, 110] then (letF (bkR r) 0, false)
  else (0, false)
theorem ends_f (t : S27) (l : List Fr) (hl : l.length < 1000000) : ∃ k, provenanceref1_Ends.f k (l.map f48) t.f0 t.f1 t.f2 t.f3 t.f4 = some (((endsR t l.reverse).1 : Int), (endsR t l.reverse).2) := by
  have hbl : (bkR l.reverse).length ≤ l.length := by
    have := (List.takeWhile_sublist (l := l.reverse) (p := fun c => decide (0 < c.1))).length_le
    rwa [List.length_reverse] at this
  refine ⟨l.length + 10, ?_⟩
  unfold provenanceref1_Ends.f
  rw [blocks_f l hl _ (by omega), Option.bind_some]
  have hll : l.reverse.length = l.length := List.length_reverse
  have hl0 := ends_l0 (bkR l.reverse) (by omega) (bkR l.reverse).length 0 (by omega)
  unfold endsR
  rw [hll]
  generalize bkR l.reverse = b at *
  rw [List.length_map, List.length_map]
  have hdd : decide ((b.length : Int) < (l.length : Int)) = decide (b.length < l.length) := by
    by_cases h : b.length < l.length
    · rw [decide_eq_true h, decide_eq_true (by omega)]
    · rw [decide_eq_false h, decide_eq_false (by omega)]
  rw [hdd]
  generalize decide (b.length < l.length) = br
  rw [List.drop_zero] at hl0
  have h2 : ∀ (x : Bool) (k : Nat), b.length + 1 < k → provenanceref1_Ends.j2 k (b.map f48) x = some (((if x then letF b 0 else 0 : Nat) : Int), false) := by
    intro x k hk
    obtain ⟨k, rfl⟩ : ∃ m, k = m + 1 := ⟨k - 1, by omega⟩
    simp only [provenanceref1_Ends.j2]
    rw [List.length_map]
    cases x
    · rfl
    · exact hl0 k (by omega)
  have h1 : ∀ (x : Bool) (k : Nat), b.length + 2 < k → provenanceref1_Ends.j1 k (b.map f48) x t.f0 t.f1 t.f2 t.f3 t.f4 = some (((if x then b.length else if isB t 4 [105, 110] then letF b 0 else 0 : Nat) : Int), false) := by
    intro x k hk
    obtain ⟨k, rfl⟩ : ∃ m, k = m + 1 := ⟨k - 1, by omega⟩
    simp only [provenanceref1_Ends.j1]
    rw [List.length_map]
    cases x
    · rw [if_neg (by decide)]
      unfold isB
      by_cases h : t.f0 = 4
      · rw [if_pos h, h2 _ _ (by omega), decide_eq_true h]; simp
      · rw [if_neg h, h2 _ _ (by omega), decide_eq_false h]; simp
    · simp
  have h0 : ∀ (x : Bool) (k : Nat), b.length + 3 < k → provenanceref1_Ends.j0 k (b.map f48) br x t.f0 t.f1 t.f2 t.f3 t.f4 = some (if x then ((b.length : Int), br) else if isB t 5 [44] && br then ((b.length : Int), false) else if isB t 4 [105, 110] then ((letF b 0 : Nat), false) else (0, false)) := by
    intro x k hk
    obtain ⟨k, rfl⟩ : ∃ m, k = m + 1 := ⟨k - 1, by omega⟩
    simp only [provenanceref1_Ends.j0]
    rw [List.length_map]
    cases x
    · rw [if_neg (by decide)]
      have e5 : isB t 5 [44] = (decide (t.f0 = 5) && (t.f1.toList == [44])) := rfl
      rw [e5]
      by_cases h : t.f0 = 5
      · rw [if_pos h, decide_eq_true h]
        by_cases h3 : t.f1.toList = [44]
        · rw [if_pos h3, h1 _ _ (by omega), beq_iff_eq.mpr h3]
          cases br
          · simp; split <;> rfl
          · simp
        · rw [if_neg h3, h1 _ _ (by omega), beq_eq_false_iff_ne.mpr h3]; simp; split <;> rfl
      · rw [if_neg h, h1 _ _ (by omega), decide_eq_false h]; simp; split <;> rfl
    · simp
  have e41 : isB t 5 [41] = (decide (t.f0 = 5) && (t.f1.toList == [41])) := rfl
  have e125 : isB t 5 [125] = (decide (t.f0 = 5) && (t.f1.toList == [125])) := rfl
  rw [e41, e125]
  by_cases h : t.f0 = 5
  · rw [if_pos h, decide_eq_true h]
    by_cases h3 : t.f1.toList = [41]
    · rw [if_pos h3, h0 _ _ (by omega), beq_iff_eq.mpr h3]; simp
    · rw [if_neg h3, h0 _ _ (by omega), beq_eq_false_iff_ne.mpr h3]
      cases (t.f1.toList == [125]) <;> simp <;> (repeat' split) <;> first | rfl | simp_all
  · rw [if_neg h, h0 _ _ (by omega), decide_eq_false h]
    simp
    repeat' split
    all_goals first | rfl | simp_all
end Go.Proofs.Ytchbjjefjmcakaa.Lb
