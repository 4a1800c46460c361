import Derived.Test.YtdobkkoonamocaaNf
namespace Go.Proofs.Ytdobkkoonamocaa.Mo
open Go.RowKit Go.Lib Go.Sort Go.Proofs.Ytdobkkoonamocaa.PModulesOrdered Go.Proofs.YtdobkkoonamocaaW.PrintWords Go.Proofs.YtdobkkoonamocaaW.PrintLast Go.Proofs.YtdobkkoonamocaaW.PrintMore
set_option linter.unusedVariables false
def bsS (l : List Str) : List ByteArray := l.map fun s => ⟨⟨s⟩⟩
theorem bsS_length (l : List Str) : (bsS l).length = l.length := by simp [bsS]
theorem bsS_enc (l : List Str) : l.map encStr = encs Value.string (bsS l) := by
  have h := Lib.map_encStr (bsS l)
  have e : (bsS l).map (·.data.toList) = l := by unfold bsS; rw [List.map_map]; exact List.map_id'' (fun _ => rfl) l
  rw [e] at h
  exact h
theorem equal_own {B1 B2 : Nat} {W : World} {A1 A2 : Option Addr} {c1 c2 : Nat} {ss : List Str} (h1 : W.ownsRow B1 9 1 (.slice A1 ss.length c1) ss.length (ss.map encStr)) (h2 : W.ownsRow B2 9 1 (.slice A2 ss.length c2) ss.length (ss.map encStr)) (hn : ss.length ≤ 9223372036854775807) :
    Calls Try.prog 15 #[.slice A1 ss.length c1, .slice A2 ss.length c2] W fun e w' => e = .returned (.bool true) ∧ Drawn0 W w' := by
  by_cases h0 : ss.length = 0
  · rw [h0]
    refine (Try.slices_Equal_string_empty A1 A2 c1 0 c2 W (by decide)).mono ?_
    rintro e w' ⟨rfl, rfl⟩
    exact ⟨rfl, Drawn0.refl _⟩
  · have hne : ∀ A c, Value.slice A ss.length c ≠ .slice none 0 0 := fun A c h => by injection h with _ h _; exact h0 h
    rw [bsS_enc] at h1 h2
    obtain ⟨g1, p1, e1, _, _, _, _, hl1, hH1⟩ := Lib.holds_of_ownsRow (enc := Value.string) h1 (hne _ _)
    obtain ⟨g2, p2, e2, _, _, _, _, hl2, hH2⟩ := Lib.holds_of_ownsRow (enc := Value.string) h2 (hne _ _)
    injection e1 with e11 _ e13
    injection e2 with e21 _ e23
    subst e11 e13 e21 e23
    have hc : ∀ g, Holds Value.string W g 0 (bsS ss).toArray → ∀ j, j < (bsS ss).length → W.cell? ⟨g, 0 + j, none⟩ = some (.string ((bsS ss).getD j ByteArray.empty)) := fun g hH j hj => by
      rw [(hH j (by simpa using hj)).1]
      have e : (bsS ss).toArray[j]! = (bsS ss).getD j ByteArray.empty := by
        rw [List.getD_eq_getElem?_getD, List.getElem?_eq_getElem hj, getElem!_pos _ j (by simpa using hj)]
        simp
      rw [e]
    refine (Try.slices_Equal_string g1 0 ss.length c1 g2 0 ss.length c2 (bsS ss) (bsS ss) W (by rw [bsS_length]; omega) (by rw [bsS_length]; omega) hn hn (hc _ hH1) (hc _ hH2)).mono ?_
    rintro e w' ⟨rfl, q, rfl⟩
    exact ⟨by simp, ⟨⟨q, rfl⟩⟩⟩
/-- Module i, tested as far as name j. -/
def isB (N C : List ByteArray) (M : Nat → Nat → Bool) (i j : Nat) : Bool := hasB C (sx N (i : Int)) || (List.range j).any fun a => M i a && hasB C (sx N (a : Int))
theorem isB_zero (N C : List ByteArray) (M : Nat → Nat → Bool) (i : Nat) : isB N C M i 0 = hasB C (sx N (i : Int)) := by simp [isB]
theorem isB_succ (N C : List ByteArray) (M : Nat → Nat → Bool) (i j : Nat) : isB N C M i (j + 1) = (isB N C M i j || (M i j && hasB C (sx N (j : Int)))) := by
  unfold isB
  rw [List.range_succ, List.any_append]
  simp [Bool.or_assoc]
/-- What the law gathers as far as module i. -/
def outB (N C : List ByteArray) (M : Nat → Nat → Bool) (i : Nat) : List ByteArray := ((List.range i).filter fun a => isB N C M a N.length).map fun (a : Nat) => sx N (a : Int)
theorem outB_zero (N C : List ByteArray) (M : Nat → Nat → Bool) : outB N C M 0 = [] := rfl
theorem outB_succ (N C : List ByteArray) (M : Nat → Nat → Bool) (i : Nat) : outB N C M (i + 1) = if isB N C M i N.length then outB N C M i ++ [sx N (i : Int)] else outB N C M i := by
  unfold outB
  rw [List.range_succ, List.filter_append, List.map_append]
  by_cases h : isB N C M i N.length = true
  · rw [if_pos h]; simp [h]
  · rw [if_neg h]; simp [h]
theorem outB_len (N C : List ByteArray) (M : Nat → Nat → Bool) (i : Nat) : (outB N C M i).length ≤ i := by
  unfold outB
  rw [List.length_map]
  have := List.length_filter_le (fun a => isB N C M a N.length) (List.range i)
  simpa using this
theorem hasB_cont (C : List ByteArray) (s : ByteArray) : (C.map ByteArray.toList).contains s.toList = hasB C s := by
  rw [Bool.eq_iff_iff, hasB_iff]
  simp only [List.contains_iff_mem, List.mem_map]
theorem outB_full (N C : List ByteArray) (M : Nat → Nat → Bool) : dS (outB N C M N.length) = afterL N.length (nm N) M (C.map ByteArray.toList) := by
  unfold dS outB afterL
  rw [List.map_map]
  have e : (fun a => isB N C M a N.length) = afterB N.length (nm N) M (C.map ByteArray.toList) := by
    funext a
    unfold isB afterB nm
    rw [hasB_cont]
    congr 1
    congr 1
    funext j
    rw [hasB_cont]
  rw [e]
  rfl
end Go.Proofs.Ytdobkkoonamocaa.Mo
