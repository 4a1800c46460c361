/- slices.Sort and slices.Compact at a row of the call's own. -/
import Derived.Test.YtdobkkoonamocaaNb
import Derived.Test.YtdobkkoonamocaaShelf
import Derived.Sort.OwnSorted
import Derived.Sort.Grow
import Derived.Lib.OwnBridge
namespace Go.Proofs.Ytdobkkoonamocaa.Mo
open Go.RowKit Go.Lib Go.Sort Go.Proofs.Ytdobkkoonamocaa.PModulesOrdered Go.Proofs.YtdobkkoonamocaaW.PrintWords Go.Proofs.YtdobkkoonamocaaW.PrintLast Go.Proofs.YtdobkkoonamocaaW.PrintMore
set_option linter.unusedVariables false
def dS (l : List ByteArray) : List Str := l.map ByteArray.toList
theorem dS_enc (l : List ByteArray) : encs Value.string l = (dS l).map encStr := by
  have h := Lib.map_encStr l
  have e : dS l = l.map (·.data.toList) := by unfold dS; exact List.map_congr_left fun s _ => ByteArray.toList_eq s
  rw [e, h]
  rfl
theorem below_grow {B : Nat} {w0 w : World} (h : Below B w0 w) (os : Array Obj) (hB : B ≤ w.heap.size) : Below B w0 (grow w os) :=
  h.trans ⟨rfl, rfl, rfl, by simp [grow], fun k hk => by simp [grow, Array.getElem?_append, show k < w.heap.size by omega]⟩
theorem own_grow {w : World} {base e n : Nat} {v : Value} {xs : List Value} (h : w.ownsRow base e 1 v n xs) (os : Array Obj) : (grow w os).ownsRow base e 1 v n xs :=
  pw_own_below h (below_grow (Below.refl _ _) os (Nat.le_refl _))
theorem dS_length (l : List ByteArray) : (dS l).length = l.length := by simp [dS]
theorem grown_same (W : World) (r : Option Nat) : W.grownBy W r := ⟨rfl, rfl, rfl, Nat.le_refl _, fun _ _ _ => rfl⟩
theorem grown_put (W : World) (n g : Nat) (d : Array Str) (os : Array Obj) : W.grownBy (grow (putRow encStr (Sort.ahead W n) g 0 d) os) (some g) :=
  ⟨rfl, rfl, rfl, by simp [grow, putRow, mapBlock, Sort.ahead], fun k hk hne => by
    have hgk : g ≠ k := fun h => hne (by rw [h])
    simp [grow, putRow, mapBlock, Sort.ahead, Array.getElem?_append, Array.getElem_modify, hk, hgk]⟩
/-- slices.Sort. -/
theorem sort_own {B : Nat} {W : World} {A : Option Addr} {c : Nat} {ss : List Str} (h : W.ownsRow B 9 1 (.slice A ss.length c) ss.length (ss.map encStr)) (hn : ss.length < 4611686018427387904) (hB : B ≤ W.heap.size) :
    Calls Try.prog 14 #[.slice A ss.length c] W fun e w' => e = .returned (.tuple #[]) ∧ w'.ownsRow B 9 1 (.slice A ss.length c) ss.length ((ss.mergeSort leS).map encStr) ∧ W.grownBy w' (Value.slice A ss.length c).ownBlock ∧ Below B W w' := by
  by_cases hv : Value.slice A ss.length c = .slice none 0 0
  · injection hv with h1 h2 h3
    subst h1 h3
    obtain rfl := List.length_eq_zero_iff.1 h2
    refine (Try.slices_Sort_string_none none 0 W).mono ?_
    rintro e w' ⟨rfl, rfl⟩
    exact ⟨rfl, by simpa using h, grown_same _ _, Below.refl _ _⟩
  · obtain ⟨g, cap, e0, hbg, hgl, hcap, hcm, hlen, hH⟩ := Lib.holds_of_ownsRow h hv
    injection e0 with e1 e2 e3
    subst e1 e3
    refine (Try.slices_Sort_string g 0 c ss W hH hgl hn).mono ?_
    rintro e w' ⟨rfl, n, os, rfl⟩
    have hl : (ss.mergeSort fun x y => decide (x ≤ y)).length = ss.length := by simp
    refine ⟨rfl, ?_, grown_put W n g _ os, below_grow (below_putRow (Below.refl _ _) hbg) os (by simpa [putRow, mapBlock, Sort.ahead] using hB)⟩
    have h2 := own_grow (ownsRow_putRow (q := n) h hl (Nat.le_refl _)) os
    rw [List.take_of_length_le (by omega)] at h2
    exact h2
/-- slices.Compact. -/
theorem compact_own {B : Nat} {W : World} {A : Option Addr} {c : Nat} {ss : List Str} (h : W.ownsRow B 9 1 (.slice A ss.length c) ss.length (ss.map encStr)) (hn : ss.length < 4611686018427387904) (hB : B ≤ W.heap.size) :
    Calls Try.prog 22 #[.slice A ss.length c] W fun e w' => e = .returned (.slice A (compact ss).length c) ∧ w'.ownsRow B 9 1 (.slice A (compact ss).length c) (compact ss).length ((compact ss).map encStr) ∧ W.grownBy w' (Value.slice A ss.length c).ownBlock ∧ Below B W w' := by
  by_cases hv : Value.slice A ss.length c = .slice none 0 0
  · injection hv with h1 h2 h3
    subst h1 h3
    obtain rfl := List.length_eq_zero_iff.1 h2
    refine (Try.slices_Compact_string_empty none 0 W).mono ?_
    rintro e w' ⟨rfl, rfl⟩
    exact ⟨rfl, h, grown_same _ _, Below.refl _ _⟩
  · obtain ⟨g, cap, e0, hbg, hgl, hcap, hcm, hlen, hH⟩ := Lib.holds_of_ownsRow h hv
    injection e0 with e1 e2 e3
    subst e1 e3
    refine (Try.slices_Compact_string g 0 c ss W hH (by omega) hcap).mono ?_
    rintro e w' ⟨rfl, q, rfl⟩
    have hle : (compact ss).length ≤ ss.length := by
      unfold compact compactUpTo
      rw [List.length_map]
      have := List.length_filter_le (keeps ss.toArray) (List.range ss.length)
      simpa using this
    have h2 := ownsRow_putRow (q := q) (k := (compact ss).length) (ys := compact ss ++ List.replicate (ss.length - (compact ss).length) []) h (by simp; omega) hle
    rw [List.take_left] at h2
    exact ⟨rfl, h2, by have := grown_put W q g (compact ss ++ List.replicate (ss.length - (compact ss).length) []).toArray #[]; rwa [grow_empty] at this, below_putRow (Below.refl _ _) hbg⟩
end Go.Proofs.Ytdobkkoonamocaa.Mo
