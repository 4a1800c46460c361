import Derived.Test.YtdobkkoonamocaaPModulesOrderedx1
import Derived.Test.YtdobkkoonamocaaMp
import Derived.Lib.Hide
import Derived.Outline
namespace Go.Proofs.Ytdobkkoonamocaa.Mo
open Go.RowKit Go.Proofs.Ytdobkkoonamocaa.PModulesOrdered Go.Proofs.YtdobkkoonamocaaW.PrintWords Go.Proofs.YtdobkkoonamocaaW.PrintLast Go.Proofs.YtdobkkoonamocaaW.PrintMore
set_option linter.unusedVariables false
set_option linter.unusedSimpArgs false

/-- A list has a string. -/
def hasB (l : List ByteArray) (s : ByteArray) : Bool := l.any fun x => decide (x.toList = s.toList)
theorem w64i (i : Nat) (h : (i : Int) < 9223372036854775807) : wrap64 ((i : Int) + 1) = ((i + 1 : Nat) : Int) := by unfold wrap64; omega
/-- Number i of a list of strings. -/
abbrev sx (l : List ByteArray) (i : Int) : ByteArray := rdOf ByteArray.empty l i
theorem sx_get {l : List ByteArray} {i : Nat} (h : i < l.length) : sx l (i : Int) = l[i] := by
  unfold sx rdOf
  rw [Int.toNat_natCast, List.getD_eq_getElem?_getD, List.getElem?_eq_getElem h]
  rfl
theorem drop_sx {l : List ByteArray} {i : Nat} (h : i < l.length) : l.drop i = sx l (i : Int) :: l.drop (i + 1) := by
  rw [List.drop_eq_getElem_cons h, sx_get h]
theorem take_sx {l : List ByteArray} {i : Nat} (h : i < l.length) : l.take (i + 1) = l.take i ++ [sx l (i : Int)] := by
  rw [List.take_succ_eq_append_getElem h, sx_get h]
theorem hasB_drop {l : List ByteArray} {i : Nat} (h : i < l.length) (s : ByteArray) : hasB (l.drop i) s = (decide ((sx l (i : Int)).toList = s.toList) || hasB (l.drop (i + 1)) s) := by
  rw [drop_sx h]; rfl

def LIM : Nat := 9223372036854775808
theorem has_from (l : List ByteArray) (s : ByteArray) (hl : l.length < LIM) : ∀ (d i k : Nat), i + d = l.length → d < k → provenanceref1_has.l0 k s l (l.length : Int) (i : Int) = some (hasB (l.drop i) s) := by
  unfold LIM at hl
  intro d
  induction d with
  | zero =>
    intro i k hi hk
    obtain ⟨k, rfl⟩ : ∃ m, k = m + 1 := ⟨k - 1, by omega⟩
    simp only [provenanceref1_has.l0]
    rw [if_neg (by omega), List.drop_eq_nil_of_le (by omega)]
    rfl
  | succ d ih =>
    intro i k hi hk
    obtain ⟨k, rfl⟩ : ∃ m, k = m + 1 := ⟨k - 1, by omega⟩
    simp only [provenanceref1_has.l0]
    rw [if_pos (by omega), if_pos (by omega), if_pos (by omega), hasB_drop (by omega), w64i i (by omega), ih (i + 1) k (by omega) (by omega)]
    by_cases h : (sx l (i : Int)).toList = s.toList
    · rw [if_pos h, decide_eq_true h]; rfl
    · rw [if_neg h, decide_eq_false h]; rfl
theorem index_from (l : List ByteArray) (s : ByteArray) (hl : l.length < LIM) : ∀ (d i k : Nat), i + d = l.length → d < k → ∃ r, slices_Index_string_string.l0 k l s (l.length : Int) (i : Int) = some r ∧ decide (r ≥ 0) = hasB (l.drop i) s := by
  unfold LIM at hl
  intro d
  induction d with
  | zero =>
    intro i k hi hk
    obtain ⟨k, rfl⟩ : ∃ m, k = m + 1 := ⟨k - 1, by omega⟩
    simp only [slices_Index_string_string.l0]
    rw [if_neg (by omega), List.drop_eq_nil_of_le (by omega)]
    exact ⟨_, rfl, rfl⟩
  | succ d ih =>
    intro i k hi hk
    obtain ⟨k, rfl⟩ : ∃ m, k = m + 1 := ⟨k - 1, by omega⟩
    simp only [slices_Index_string_string.l0]
    rw [if_pos (by omega), if_pos (by omega), if_pos (by omega), hasB_drop (by omega), w64i i (by omega)]
    obtain ⟨r, h1, h2⟩ := ih (i + 1) k (by omega) (by omega)
    by_cases h : s.toList = (sx l (i : Int)).toList
    · rw [if_pos h, decide_eq_true h.symm]
      exact ⟨_, rfl, decide_eq_true (by omega)⟩
    · rw [if_neg h, decide_eq_false (fun e => h e.symm)]
      exact ⟨r, h1, by rw [h2]; rfl⟩
theorem contains_f (l : List ByteArray) (s : ByteArray) (hl : l.length < LIM) {k : Nat} (hk : l.length < k) : slices_Contains_string_string.f k l s = some (hasB l s) := by
  obtain ⟨r, h1, h2⟩ := index_from l s hl l.length 0 k (by omega) hk
  unfold slices_Contains_string_string.f slices_Index_string_string.f
  rw [show slices_Index_string_string.l0 k l s (l.length : Int) 0 = some r from h1, Option.bind_some, h2]
  rfl

theorem has_calls (l : List ByteArray) (s : ByteArray) (A : Option Addr) (c : Nat) (w : World) (hl : l.length < LIM) (hr : Kd.C Kd.string w A l.length l) (hc : l.length ≤ c) :
    Calls Try.prog 20 #[.slice A l.length c, .string s] w fun e w' => e = .returned (.bool (hasB l s)) ∧ Drawn0 w w' :=
  provenanceref1_has.calls (l.length + 1) A c l s _ w hr hc (has_from l s hl l.length 0 _ (by omega) (by omega))
theorem contains_calls (l : List ByteArray) (s : ByteArray) (A : Option Addr) (c : Nat) (w : World) (hl : l.length < LIM) (hr : Kd.C Kd.string w A l.length l) (hc : l.length ≤ c) :
    Calls Try.prog 12 #[.slice A l.length c, .string s] w fun e w' => e = .returned (.bool (hasB l s)) ∧ Drawn0 w w' :=
  slices_Contains_string_string.calls (l.length + 1) A c l s _ w hr hc (contains_f l s hl (by omega))

/-- A name stands twice. -/
def dupB : List ByteArray → Bool
  | [] => false
  | x :: r => hasB r x || dupB r
def dupP (pre : List ByteArray) : List ByteArray → Bool
  | [] => false
  | x :: r => hasB pre x || dupP (pre ++ [x]) r
theorem hasB_snoc (pre : List ByteArray) (x y : ByteArray) : hasB (pre ++ [x]) y = (hasB pre y || decide (x.toList = y.toList)) := by
  unfold hasB; simp
theorem dupP_eq : ∀ (r pre : List ByteArray), dupP pre r = (dupB r || r.any (hasB pre))
  | [], _ => rfl
  | x :: r, pre => by
    rw [dupP, dupP_eq r, dupB, List.any_cons]
    have h : r.any (hasB (pre ++ [x])) = (r.any (hasB pre) || hasB r x) := by
      rw [Bool.eq_iff_iff]
      simp only [List.any_eq_true, Bool.or_eq_true, hasB_snoc]
      constructor
      · rintro ⟨y, hy, h | h⟩
        · exact .inl ⟨y, hy, h⟩
        · refine .inr ?_
          unfold hasB
          rw [List.any_eq_true]
          exact ⟨y, hy, decide_eq_true (of_decide_eq_true h).symm⟩
      · rintro (⟨y, hy, h⟩ | h)
        · exact ⟨y, hy, .inl h⟩
        · unfold hasB at h
          rw [List.any_eq_true] at h
          obtain ⟨y, hy, h⟩ := h
          exact ⟨y, hy, .inr (decide_eq_true (of_decide_eq_true h).symm)⟩
    rw [h]
    cases hasB pre x <;> cases dupB r <;> cases r.any (hasB pre) <;> cases hasB r x <;> rfl
theorem dupP_nil (l : List ByteArray) : dupP [] l = dupB l := by
  rw [dupP_eq]
  have : l.any (hasB []) = false := by rw [List.any_eq_false]; intro x _; simp [hasB]
  rw [this, Bool.or_false]

/-- All that is imported is named. -/
def allB (N : List ByteArray) (I : List (List ByteArray)) : Bool := I.all fun l => l.all fun s => hasB N s
/-- The error of modules. -/
def mErr (N : List ByteArray) (I : List (List ByteArray)) : Int := if 16 < N.length then 2 else if ¬ N.length = I.length then 3 else if dupB N then 7 else if allB N I then 0 else 6

theorem rd_L1_get {I : List (List ByteArray)} {i : Nat} (h : i < I.length) : rd_L1 I (i : Int) = I[i] := by
  unfold rd_L1
  rw [Int.toNat_natCast, List.getD_eq_getElem?_getD, List.getElem?_eq_getElem h]
  rfl
theorem drop_L1 {I : List (List ByteArray)} {i : Nat} (h : i < I.length) : I.drop i = rd_L1 I (i : Int) :: I.drop (i + 1) := by
  rw [List.drop_eq_getElem_cons h, rd_L1_get h]

/-- The imports of one module. -/
theorem check_in (N : List ByteArray) (I : List (List ByteArray)) (hN : N.length < LIM) (i : Nat) (l : List ByteArray) (hl : l.length < LIM) (r : Int) (hi : (i : Int) < 1000)
    (hend : ∃ K, ∀ k, K ≤ k → modules_Check.l1 k N I (I.length : Int) ((i + 1 : Nat) : Int) = some r) : ∀ (d j : Nat), j + d = l.length → ∃ K, ∀ k, K ≤ k → modules_Check.l2 k N I (I.length : Int) (i : Int) l (l.length : Int) (j : Int) = some (if (l.drop j).all (fun s => hasB N s) then r else 6) := by
  unfold LIM at hN hl
  intro d
  induction d with
  | zero =>
    intro j hj
    obtain ⟨K, hK⟩ := hend
    refine ⟨K + 1, fun k hk => ?_⟩
    obtain ⟨k, rfl⟩ : ∃ m, k = m + 1 := ⟨k - 1, by omega⟩
    simp only [modules_Check.l2]
    rw [if_neg (by omega), w64i i (by omega), List.drop_eq_nil_of_le (by omega)]
    exact hK k (by omega)
  | succ d ih =>
    intro j hj
    obtain ⟨K, hK⟩ := ih (j + 1) (by omega)
    refine ⟨K + N.length + 2, fun k hk => ?_⟩
    obtain ⟨k, rfl⟩ : ∃ m, k = m + 1 := ⟨k - 1, by omega⟩
    simp only [modules_Check.l2]
    rw [if_pos (by omega), if_pos (by omega), if_pos (by omega), contains_f N _ hN (by omega), Option.bind_some, drop_sx (by omega), List.all_cons, w64i j (by omega)]
    by_cases h : hasB N (sx l (j : Int)) = true
    · rw [if_pos h, hK k (by omega), h, Bool.true_and]
    · rw [if_neg h]
      have : hasB N (sx l (j : Int)) = false := by simpa using h
      rw [this, Bool.false_and]
      rfl

theorem check_mid (N : List ByteArray) (I : List (List ByteArray)) (hN : N.length < LIM) (hI : I.length ≤ 16) (hl : ∀ l ∈ I, l.length < LIM) : ∀ (d i : Nat), i + d = I.length → ∃ K, ∀ k, K ≤ k → modules_Check.l1 k N I (I.length : Int) (i : Int) = some (if allB N (I.drop i) then 0 else 6) := by
  intro d
  induction d with
  | zero =>
    intro i hi
    refine ⟨1, fun k hk => ?_⟩
    obtain ⟨k, rfl⟩ : ∃ m, k = m + 1 := ⟨k - 1, by omega⟩
    simp only [modules_Check.l1]
    rw [if_neg (by omega), List.drop_eq_nil_of_le (by omega)]
    rfl
  | succ d ih =>
    intro i hi
    have hlt : i < I.length := by omega
    have hm : rd_L1 I (i : Int) ∈ I := by rw [rd_L1_get hlt]; exact List.getElem_mem hlt
    obtain ⟨K, hK⟩ := check_in N I hN i (rd_L1 I (i : Int)) (hl _ hm) _ (by omega) (ih (i + 1) (by omega)) (rd_L1 I (i : Int)).length 0 (by omega)
    refine ⟨K + 1, fun k hk => ?_⟩
    obtain ⟨k, rfl⟩ : ∃ m, k = m + 1 := ⟨k - 1, by omega⟩
    simp only [modules_Check.l1]
    rw [if_pos (by omega), if_pos (by omega), if_pos (by omega)]
    have h := hK k (by omega)
    rw [show ((0 : Nat) : Int) = 0 from rfl, List.drop_zero] at h
    rw [h, drop_L1 hlt]
    unfold allB
    rw [List.all_cons]
    cases (rd_L1 I (i : Int)).all fun s => hasB N s <;> simp

theorem check_top (N : List ByteArray) (I : List (List ByteArray)) (hN : N.length < LIM) (hI : I.length ≤ 16) (hl : ∀ l ∈ I, l.length < LIM) : ∀ (d i : Nat), i + d = N.length → ∃ K, ∀ k, K ≤ k → modules_Check.l0 k N I N (N.length : Int) (i : Int) = some (if dupP (N.take i) (N.drop i) then 7 else if allB N I then 0 else 6) := by
  intro d
  induction d with
  | zero =>
    intro i hi
    obtain ⟨K, hK⟩ := check_mid N I hN hI hl I.length 0 (by omega)
    refine ⟨K + 1, fun k hk => ?_⟩
    obtain ⟨k, rfl⟩ : ∃ m, k = m + 1 := ⟨k - 1, by omega⟩
    simp only [modules_Check.l0]
    rw [if_neg (by omega), List.drop_eq_nil_of_le (by omega)]
    have h := hK k (by omega)
    rw [show ((0 : Nat) : Int) = 0 from rfl, List.drop_zero] at h
    rw [h]
    rfl
  | succ d ih =>
    intro i hi
    have hlt : i < N.length := by omega
    have hN' := hN
    unfold LIM at hN
    obtain ⟨K, hK⟩ := ih (i + 1) (by omega)
    refine ⟨K + N.length + 2, fun k hk => ?_⟩
    obtain ⟨k, rfl⟩ : ∃ m, k = m + 1 := ⟨k - 1, by omega⟩
    simp only [modules_Check.l0]
    rw [if_pos (by omega), if_pos (by omega), if_pos (by omega), if_pos (by omega), Int.toNat_natCast, contains_f _ _ (by rw [List.length_take]; unfold LIM; omega) (by rw [List.length_take]; omega), Option.bind_some, drop_sx hlt, dupP, w64i i (by omega)]
    by_cases h : hasB (N.take i) (sx N (i : Int)) = true
    · rw [if_pos h, h]; rfl
    · rw [if_neg h, hK k (by omega), take_sx hlt]
      have : hasB (N.take i) (sx N (i : Int)) = false := by simpa using h
      rw [this, Bool.false_or]

theorem check_f (N : List ByteArray) (I : List (List ByteArray)) (hl : ∀ l ∈ I, l.length < LIM) : ∃ k, modules_Check.f k N I = some (mErr N I) := by
  unfold modules_Check.f mErr
  by_cases h1 : 16 < N.length
  · exact ⟨0, by rw [if_pos (by omega), if_pos h1]⟩
  · by_cases h2 : N.length = I.length
    · obtain ⟨K, hK⟩ := check_top N I (by unfold LIM; omega) (by omega) hl N.length 0 (by omega)
      refine ⟨K, ?_⟩
      rw [if_neg (by omega), if_neg h1, if_pos (by omega), if_neg (fun h => h h2)]
      have h := hK K (Nat.le_refl _)
      rw [show ((0 : Nat) : Int) = 0 from rfl, List.take_zero, List.drop_zero, dupP_nil] at h
      exact h
    · exact ⟨0, by rw [if_neg (by omega), if_neg h1, if_neg (by omega), if_pos h2]⟩

theorem check_calls (N : List ByteArray) (I : List (List ByteArray)) (A0 A1 : Option Addr) (c0 c1 : Nat) (w : World) (hl : ∀ l ∈ I, l.length < LIM) (hr0 : Kd.C Kd.string w A0 N.length N) (hc0 : N.length ≤ c0) (hr1 : Kd.C (Kd.slice 9 Kd.string) w A1 I.length I) (hc1 : I.length ≤ c1) :
    Calls Try.prog 9 #[.slice A0 N.length c0, .slice A1 I.length c1] w fun e w' => e = .returned (.int .i64 (mErr N I)) ∧ Drawn0 w w' := by
  obtain ⟨k, h⟩ := check_f N I hl
  exact modules_Check.calls k A0 c0 N A1 c1 I _ w hr0 hc0 hr1 hc1 h
end Go.Proofs.Ytdobkkoonamocaa.Mo
