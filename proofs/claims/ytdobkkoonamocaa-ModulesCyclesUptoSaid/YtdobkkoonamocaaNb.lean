/- What After's loops keep. -/
import Derived.Test.YtdobkkoonamocaaNd
import Derived.Test.YtdobkkoonamocaaMg
namespace Go.Proofs.Ytdobkkoonamocaa.Mo
open Go.RowKit Go.Proofs.Ytdobkkoonamocaa.PModulesOrdered Go.Proofs.YtdobkkoonamocaaW.PrintWords Go.Proofs.YtdobkkoonamocaaW.PrintLast Go.Proofs.YtdobkkoonamocaaW.PrintMore
set_option linter.unusedVariables false
theorem countP_less {α : Type} {p q : α → Bool} : ∀ (l : List α), (∀ a, q a = true → p a = true) → (∃ a ∈ l, p a = true ∧ q a = false) → l.countP q + 1 ≤ l.countP p
  | [], _, h => by obtain ⟨_, h, _⟩ := h; cases h
  | x :: l, hm, h => by
    have hle : l.countP q ≤ l.countP p := List.countP_mono_left (fun a _ h => hm a h)
    rw [List.countP_cons, List.countP_cons]
    by_cases hx : p x = true ∧ q x = false
    · rw [hx.1, hx.2]; simp; omega
    · obtain ⟨a, ha, hp⟩ := h
      have ha' : a ∈ l := by
        rcases List.mem_cons.1 ha with rfl | h
        · exact absurd hp hx
        · exact h
      have ih := countP_less l hm ⟨a, ha', hp⟩
      by_cases h1 : q x = true
      · rw [if_pos h1, if_pos (hm x h1)]; omega
      · rw [if_neg h1]; omega
/-- The names that are not gathered. -/
def cntN (N dn : List ByteArray) : Nat := (List.range N.length).countP fun (a : Nat) => !hasB dn (sx N (a : Int))
theorem cntN_le (N dn : List ByteArray) : cntN N dn ≤ N.length := by
  have := List.countP_le_length (p := fun (a : Nat) => !hasB dn (sx N (a : Int))) (l := List.range N.length)
  simpa [cntN] using this
theorem cntN_snoc {N dn : List ByteArray} {i : Nat} (hi : i < N.length) (h : hasB dn (sx N (i : Int)) = false) : cntN N (dn ++ [sx N (i : Int)]) + 1 ≤ cntN N dn := by
  unfold cntN
  refine countP_less _ (fun a ha => ?_) ⟨i, List.mem_range.2 hi, ?_, ?_⟩
  · rw [hasB_snoc] at ha
    cases hh : hasB dn (sx N (a : Int))
    · rfl
    · rw [hh] at ha; cases ha
  · rw [h]; rfl
  · rw [hasB_snoc]; simp
/-- What After's loops keep of what is gathered. -/
structure GB (N : List ByteArray) (I : List (List ByteArray)) (C dn : List ByteArray) : Prop where
  has : ∀ s ∈ C, s ∈ dn
  just : ∀ e ∈ dn, ∃ i, i < N.length ∧ nm N i = e.toList ∧ (nm N i ∈ C.map ByteArray.toList ∨ ∃ j, j < N.length ∧ Reach N.length (nm N) (im I) i j ∧ nm N j ∈ C.map ByteArray.toList)
  len : dn.length + cntN N dn ≤ C.length + N.length
theorem named {N : List ByteArray} {s : ByteArray} (h : hasB N s = true) : ∃ i, i < N.length ∧ nm N i = s.toList := by
  obtain ⟨x, hx, he⟩ := hasB_iff.1 h
  obtain ⟨j, hj, rfl⟩ := List.mem_iff_getElem.1 hx
  exact ⟨j, hj, by unfold nm; rw [sx_get hj]; exact he⟩
theorem GB.start {N C : List ByteArray} {I : List (List ByteArray)} (h : ∀ s ∈ C, hasB N s = true) : GB N I C C :=
  ⟨fun _ h => h, fun e he => by
    obtain ⟨i, hi, hn⟩ := named (h e he)
    exact ⟨i, hi, hn, .inl (by rw [hn]; exact List.mem_map_of_mem he)⟩, by have := cntN_le N C; omega⟩
/-- After's test. -/
def addB (N : List ByteArray) (I : List (List ByteArray)) (dn : List ByteArray) (i : Nat) : Bool := !hasB dn (sx N (i : Int)) && (rd_L1 I (i : Int)).any (hasB dn)
theorem GB.add {N C dn : List ByteArray} {I : List (List ByteArray)} (h : GB N I C dn) {i : Nat} (hi : i < N.length) (ht : addB N I dn i = true) : GB N I C (dn ++ [sx N (i : Int)]) := by
  unfold addB at ht
  rw [Bool.and_eq_true, List.any_eq_true] at ht
  obtain ⟨h1, m, hm, h2⟩ := ht
  have h1' : hasB dn (sx N (i : Int)) = false := by simpa using h1
  refine ⟨fun s hs => List.mem_append_left _ (h.has s hs), fun e he => ?_, ?_⟩
  · rcases List.mem_append.1 he with he | he
    · exact h.just e he
    · obtain rfl := List.mem_singleton.1 he
      obtain ⟨x, hx, hxm⟩ := hasB_iff.1 h2
      obtain ⟨k, hk, hkn, hc⟩ := h.just x hx
      have hr : Reach N.length (nm N) (im I) i k := .one hk (by unfold im; rw [hkn, hxm]; exact List.mem_map_of_mem hm)
      refine ⟨i, hi, rfl, .inr ?_⟩
      rcases hc with hc | ⟨j, hj, hrj, hc⟩
      · exact ⟨k, hk, hr, hc⟩
      · exact ⟨j, hj, .two hr hrj, hc⟩
  · have := cntN_snoc hi h1'
    have := h.len
    rw [List.length_append, List.length_singleton]; omega
theorem GB.ok {N C dn : List ByteArray} {I : List (List ByteArray)} (h : GB N I C dn) (hf : ∀ a, a < N.length → addB N I dn a = false) : AfterOk N.length (nm N) (im I) (C.map ByteArray.toList) (dn.map ByteArray.toList) := by
  refine ⟨fun m hm => ?_, fun e he => ?_, fun i hi m hm ho => ?_⟩
  · obtain ⟨s, hs, rfl⟩ := List.mem_map.1 hm
    exact List.mem_map_of_mem (h.has s hs)
  · obtain ⟨x, hx, rfl⟩ := List.mem_map.1 he
    exact h.just x hx
  · have h1 := hf i hi
    unfold im at hm
    obtain ⟨s, hs, rfl⟩ := List.mem_map.1 hm
    obtain ⟨x, hx, he⟩ := List.mem_map.1 ho
    have h2 : (rd_L1 I (i : Int)).any (hasB dn) = true := List.any_eq_true.2 ⟨s, hs, hasB_iff.2 ⟨x, hx, he⟩⟩
    unfold addB at h1
    rw [h2, Bool.and_true] at h1
    have h3 : hasB dn (sx N (i : Int)) = true := by simpa using h1
    obtain ⟨y, hy, he⟩ := hasB_iff.1 h3
    exact List.mem_map.2 ⟨y, hy, he⟩
end Go.Proofs.Ytdobkkoonamocaa.Mo
