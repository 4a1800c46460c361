import Derived.Test.YtlkoihhlbhcfpaaPFixityTreex2
import Derived.Test.YtlkoihhlbhcfpaaFp
namespace Go.Proofs.Ytlkoihhlbhcfpaa.Fx
open Go.RowKit Go.Proofs.Ytlkoihhlbhcfpaa.PFixityTree Go.Proofs.YtlkoihhlbhcfpaaW.PrintWords Go.Proofs.YtlkoihhlbhcfpaaW.PrintLast Go.Proofs.YtlkoihhlbhcfpaaW.PrintMore
set_option linter.unusedVariables false

theorem bytes_eq {a b : ByteArray} (h : a.toList = b.toList) : a = b := by
  rw [ByteArray.toList_eq, ByteArray.toList_eq] at h
  cases a; cases b
  simp at h
  rw [h]

/-- The side and the level of an operator. -/
def fx (op : ByteArray) : List S42 → Int × Int
  | [] => (0, 9)
  | y :: T => if y.f0.toList = op.toList then (y.f1, y.f2) else fx op T

theorem w64i (i : Nat) (h : (i : Int) < 9223372036854775807) : wrap64 ((i : Int) + 1) = ((i + 1 : Nat) : Int) := by unfold wrap64; omega

theorem rd_drop {T : List S42} {i : Nat} (h : i < T.length) : T.drop i = rd_T42 T (i : Int) :: T.drop (i + 1) := by
  rw [List.drop_eq_getElem_cons h]
  unfold rd_T42
  rw [Int.toNat_natCast, List.getD_eq_getElem?_getD, List.getElem?_eq_getElem h]
  rfl

theorem fixityOf_from (T : List S42) (op : ByteArray) (hT : T.length < 1000) : ∀ (d i k : Nat), i + d = T.length → d < k → provenanceref1_FixityOf.l0 k op T (T.length : Int) (i : Int) = some (fx op (T.drop i)) := by
  intro d
  induction d with
  | zero =>
    intro i k hi hk
    obtain ⟨k, rfl⟩ : ∃ m, k = m + 1 := ⟨k - 1, by omega⟩
    simp only [provenanceref1_FixityOf.l0]
    rw [if_neg (by omega), List.drop_eq_nil_of_le (by omega)]
    rfl
  | succ d ih =>
    intro i k hi hk
    obtain ⟨k, rfl⟩ : ∃ m, k = m + 1 := ⟨k - 1, by omega⟩
    simp only [provenanceref1_FixityOf.l0]
    rw [if_pos (by omega), if_pos (by omega), if_pos (by omega), rd_drop (by omega), w64i i (by omega), ih (i + 1) k (by omega) (by omega)]
    by_cases h : (rd_T42 T (i : Int)).f0.toList = op.toList
    · rw [if_pos h, fx, if_pos h]
    · rw [if_neg h, fx, if_neg h]
theorem fixityOf_f (T : List S42) (op : ByteArray) (hT : T.length < 1000) : provenanceref1_FixityOf.f (T.length + 1) T op = some ((fx op T).1, (fx op T).2) := fixityOf_from T op hT T.length 0 _ (by omega) (by omega)

theorem find_from (T : List S42) (op : ByteArray) (hT : T.length < 1000) : ∀ (d i k : Nat), i + d = T.length → d < k → fixity_Find.l0 k op T (T.length : Int) (i : Int) = some (op, fx op (T.drop i)) := by
  intro d
  induction d with
  | zero =>
    intro i k hi hk
    obtain ⟨k, rfl⟩ : ∃ m, k = m + 1 := ⟨k - 1, by omega⟩
    simp only [fixity_Find.l0]
    rw [if_neg (by omega), List.drop_eq_nil_of_le (by omega)]
    rfl
  | succ d ih =>
    intro i k hi hk
    obtain ⟨k, rfl⟩ : ∃ m, k = m + 1 := ⟨k - 1, by omega⟩
    simp only [fixity_Find.l0]
    rw [if_pos (by omega), if_pos (by omega), if_pos (by omega), rd_drop (by omega), w64i i (by omega), ih (i + 1) k (by omega) (by omega)]
    by_cases h : (rd_T42 T (i : Int)).f0.toList = op.toList
    · rw [if_pos h, fx, if_pos h, bytes_eq h]
    · rw [if_neg h, fx, if_neg h]
theorem find_f (T : List S42) (op : ByteArray) (hT : T.length < 1000) : fixity_Find.f (T.length + 1) T op = some (op, (fx op T).1, (fx op T).2) := find_from T op hT T.length 0 _ (by omega) (by omega)

/-- A row that is out of range. -/
def outB (x : S42) : Bool := decide (x.f1 < 0) || (decide (2 < x.f1) || (decide (x.f2 < 0) || decide (9 < x.f2)))
/-- A name that stands in the rows before. -/
def hasB (pre : List S42) (op : ByteArray) : Bool := pre.any fun y => decide (y.f0.toList = op.toList)
/-- The error of a table. -/
def ck (pre : List S42) : List S42 → Int
  | [] => 0
  | x :: r => if x.f0.toList = [] then 3 else if outB x then 4 else if hasB pre x.f0 then 7 else ck (pre ++ [x]) r

theorem ck_ok {pre T : List S42} (h : ck pre T = 0) : ∀ x ∈ T, ¬ x.f0.toList = [] ∧ 0 ≤ x.f1 ∧ x.f1 ≤ 2 ∧ 0 ≤ x.f2 ∧ x.f2 ≤ 9 := by
  induction T generalizing pre with
  | nil => intro x hx; cases hx
  | cons y T ih =>
    rw [ck] at h
    by_cases h1 : y.f0.toList = []
    · rw [if_pos h1] at h; cases h
    rw [if_neg h1] at h
    by_cases h2 : outB y = true
    · rw [if_pos h2] at h; cases h
    rw [if_neg h2] at h
    by_cases h3 : hasB pre y.f0 = true
    · rw [if_pos h3] at h; cases h
    rw [if_neg h3] at h
    intro x hx
    rcases List.mem_cons.1 hx with rfl | hx
    · refine ⟨h1, ?_⟩
      simp [outB] at h2
      omega
    · exact ih h x hx

theorem fx_ok {T : List S42} (op : ByteArray) (h : ∀ x ∈ T, ¬ x.f0.toList = [] ∧ 0 ≤ x.f1 ∧ x.f1 ≤ 2 ∧ 0 ≤ x.f2 ∧ x.f2 ≤ 9) : 0 ≤ (fx op T).1 ∧ (fx op T).1 ≤ 2 ∧ 0 ≤ (fx op T).2 ∧ (fx op T).2 ≤ 9 := by
  induction T with
  | nil => simp [fx]
  | cons y T ih =>
    rw [fx]
    split
    · have := h y (by simp)
      exact ⟨this.2.1, this.2.2.1, this.2.2.2.1, this.2.2.2.2⟩
    · exact ih (fun x hx => h x (by simp [hx]))

theorem take_snoc42 {T : List S42} {i : Nat} (h : i < T.length) : T.take (i + 1) = T.take i ++ [rd_T42 T (i : Int)] := by
  rw [List.take_succ_eq_append_getElem h]
  unfold rd_T42
  rw [Int.toNat_natCast, List.getD_eq_getElem?_getD, List.getElem?_eq_getElem h]
  rfl

theorem hasB_drop {T : List S42} {i : Nat} (h : i < T.length) (op : ByteArray) : hasB (T.drop i) op = (decide ((rd_T42 T (i : Int)).f0.toList = op.toList) || hasB (T.drop (i + 1)) op) := by
  rw [rd_drop h]; rfl

/-- The inner loop. -/
theorem fixError_in (T : List S42) (hT : T.length < 1000) (i : Nat) (hi : i < T.length) (op : ByteArray) (s v : Int) (r : Int)
    (hend : hasB (T.take i) op = false → ∃ k, provenancelaw1_fixError.l0 k T T (T.length : Int) ((i + 1 : Nat) : Int) = some r) (hr : hasB (T.take i) op = true → r = 7) :
    ∀ (d j : Nat), j + d = i → (∀ y ∈ (T.take i).take j, ¬ y.f0.toList = op.toList) → ∃ k, provenancelaw1_fixError.l1 k T T (T.length : Int) (i : Int) (T.take i) ((T.take i).length : Int) (j : Int) op s v = some r := by
  have hl : (T.take i).length = i := by rw [List.length_take]; omega
  intro d
  induction d with
  | zero =>
    intro j hj hn
    have hno : hasB (T.take i) op = false := by
      rw [List.take_of_length_le (by omega)] at hn
      unfold hasB
      rw [List.any_eq_false]
      intro y hy
      simpa using hn y hy
    obtain ⟨k, hk⟩ := hend hno
    refine ⟨k + 1, ?_⟩
    simp only [provenancelaw1_fixError.l1]
    rw [if_neg (by omega), w64i i (by omega)]
    exact hk
  | succ d ih =>
    intro j hj hn
    by_cases h : (rd_T42 (T.take i) (j : Int)).f0.toList = op.toList
    · refine ⟨1, ?_⟩
      simp only [provenancelaw1_fixError.l1]
      rw [if_pos (by omega), if_pos (by omega), if_pos (by omega), if_pos h, hr]
      unfold hasB
      rw [List.any_eq_true]
      refine ⟨_, ?_, decide_eq_true h⟩
      unfold rd_T42
      rw [Int.toNat_natCast, List.getD_eq_getElem?_getD, List.getElem?_eq_getElem (by omega)]
      exact List.getElem_mem _
    · obtain ⟨k, hk⟩ := ih (j + 1) (by omega) (by
        rw [take_snoc42 (by omega)]
        intro y hy
        rcases List.mem_append.1 hy with hy | hy
        · exact hn y hy
        · rw [List.mem_singleton] at hy; rw [hy]; exact h)
      refine ⟨k + 1, ?_⟩
      simp only [provenancelaw1_fixError.l1]
      rw [if_pos (by omega), if_pos (by omega), if_pos (by omega), if_neg h, w64i j (by omega)]
      exact hk

theorem fixError_from (T : List S42) (hT : T.length < 1000) : ∀ (d i : Nat), i + d = T.length → ∃ k, provenancelaw1_fixError.l0 k T T (T.length : Int) (i : Int) = some (ck (T.take i) (T.drop i)) := by
  intro d
  induction d with
  | zero =>
    intro i hi
    refine ⟨1, ?_⟩
    simp only [provenancelaw1_fixError.l0]
    rw [if_neg (by omega), List.drop_eq_nil_of_le (by omega)]
    rfl
  | succ d ih =>
    intro i hi
    have hlt : i < T.length := by omega
    have hd := rd_drop hlt
    by_cases h1 : (rd_T42 T (i : Int)).f0.toList = []
    · refine ⟨1, ?_⟩
      simp only [provenancelaw1_fixError.l0]
      rw [if_pos (by omega), if_pos (by omega), if_pos (by omega), if_pos h1, hd, ck, if_pos h1]
    have hck : ck (T.take i) (T.drop i) = if outB (rd_T42 T (i : Int)) then 4 else if hasB (T.take i) (rd_T42 T (i : Int)).f0 then 7 else ck (T.take (i + 1)) (T.drop (i + 1)) := by
      rw [hd, ck, if_neg h1, take_snoc42 hlt]
    -- what follows behind the test of the range
    have hj : ∃ k, provenancelaw1_fixError.j1 k T (i : Int) T (T.length : Int) (i : Int) (outB (rd_T42 T (i : Int))) (rd_T42 T (i : Int)).f0 (rd_T42 T (i : Int)).f1 (rd_T42 T (i : Int)).f2 = some (ck (T.take i) (T.drop i)) := by
      rw [hck]
      by_cases h2 : outB (rd_T42 T (i : Int)) = true
      · refine ⟨1, ?_⟩
        simp only [provenancelaw1_fixError.j1]
        rw [if_pos h2, if_pos h2]
      · obtain ⟨k, hk⟩ := fixError_in T hT i hlt (rd_T42 T (i : Int)).f0 (rd_T42 T (i : Int)).f1 (rd_T42 T (i : Int)).f2 (if hasB (T.take i) (rd_T42 T (i : Int)).f0 then 7 else ck (T.take (i + 1)) (T.drop (i + 1)))
          (fun hno => by rw [hno]; exact ih (i + 1) (by omega)) (fun hy => if_pos hy) i 0 (by omega) (fun y hy => by simp at hy)
        refine ⟨k + 1, ?_⟩
        simp only [provenancelaw1_fixError.j1]
        rw [if_neg h2, if_neg h2, if_pos (by omega), if_pos (by omega), Option.bind_some, Int.toNat_natCast]
        exact hk
    obtain ⟨k, hk⟩ := hj
    refine ⟨k + 1, ?_⟩
    simp only [provenancelaw1_fixError.l0]
    rw [if_pos (by omega), if_pos (by omega), if_pos (by omega), if_neg h1]
    unfold outB at hk
    by_cases a1 : (rd_T42 T (i : Int)).f1 < 0
    · rw [if_pos a1]; simpa [a1] using hk
    rw [if_neg a1]
    by_cases a2 : (rd_T42 T (i : Int)).f1 > 2
    · rw [if_pos a2]
      have a2' : 2 < (rd_T42 T (i : Int)).f1 := a2
      simpa [a1, a2'] using hk
    rw [if_neg a2]
    have a2' : ¬ 2 < (rd_T42 T (i : Int)).f1 := a2
    by_cases a3 : (rd_T42 T (i : Int)).f2 < 0
    · rw [if_pos a3]; simpa [a1, a2', a3] using hk
    rw [if_neg a3]
    simpa [a1, a2', a3] using hk

theorem fixError_f (T : List S42) (hT : T.length < 1000) : ∃ k, provenancelaw1_fixError.f k T = some (ck [] T) := by
  have := fixError_from T hT T.length 0 (by omega)
  simpa [provenancelaw1_fixError.f] using this
end Go.Proofs.Ytlkoihhlbhcfpaa.Fx
