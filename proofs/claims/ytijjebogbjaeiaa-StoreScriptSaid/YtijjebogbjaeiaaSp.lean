import Derived.Test.YtijjebogbjaeiaaSn
import Derived.ChangeArms
import Derived.Deep.Slices
import Derived.ProofKit
import Derived.OpenShut
import Derived.SizedLaws
namespace Go.Proofs.Ytijjebogbjaeiaa.St
open Go.RowKit Go.Proofs.Ytijjebogbjaeiaa.PStoreScript Go.Proofs.YtijjebogbjaeiaaW.PrintWords Go.Proofs.YtijjebogbjaeiaaW.PrintLast Go.Proofs.YtijjebogbjaeiaaW.PrintMore
set_option linter.unusedVariables false
theorem ce9 : Try.prog.cellsOf 9 = 1 := by kernel_rfl
theorem add_two (a : Addr) (m n : Nat) : (a.add m).add n = a.add (m + n) := by
  unfold Addr.add
  by_cases hm : m = 0
  · subst hm; simp
  · by_cases hn : n = 0
    · subst hn; simp
    · rw [if_neg hm, if_neg hn, if_neg (by omega), Nat.add_assoc]

theorem weightsAll_mem {H : Type} {P : Program} {e : TypeId} {n : Nat} : ∀ {ds : List (DataW H)} {d : DataW H}, d ∈ ds → n ∈ d.weights P e → n ∈ DataW.weightsAll P e ds
  | [], _, h, _ => by cases h
  | x :: r, d, h, hn => by
    unfold DataW.weightsAll
    rcases List.mem_cons.1 h with rfl | h
    · exact List.mem_append_left _ hn
    · exact List.mem_append_right _ (weightsAll_mem h hn)

/-- The script, opened. -/
theorem open_strs {H : Type} {enc : TypeId × Value → H} {W : World} {m : Nat} {d : Value} {x : DataW H × List MemPlace} (h : DataW.trod enc Try.prog W 0 (fun _ => true) true m 22 [d] = some x) :
    ∃ (l : List ByteArray) (A : Option Addr) (c : Nat), d = .slice A l.length c ∧ l.length ≤ c ∧ Kd.C Kd.string W A l.length l ∧ (∀ y ∈ l, y.size ∈ x.1.weights Try.prog 22) ∧ (l = [] ∨ ∃ k, l.length * 16 ≤ k ∧ k ∈ x.1.weights Try.prog 22) := by
  rcases DataW.trod_slice Try.underlying22 h with ⟨q3, _⟩ | ⟨ad, len, cap, elems, rest, n, hk, q3, hx, _, hlc, hcm, hel', hi, _, _⟩
  · obtain rfl : d = .slice none 0 0 := by simpa using q3
    exact ⟨[], none, 0, rfl, Nat.le_refl _, Kd.C_nil _ W, by simp, Or.inl rfl⟩
  · obtain rfl : d = .slice (some ad) len cap := by simpa using q3
    rw [ce9] at hi
    have hw : x.1.weights Try.prog 22 = (elems.length + rest.length) * Try.prog.bytesOf 9 :: (DataW.weightsAll Try.prog 9 (elems.map (·.1)) ++ DataW.weightsAll Try.prog 9 (rest.map (·.1))) := by
      rw [hx]
      simp [DataW.weights, Try.underlying22]
    have hy : ∀ i, ∃ y : ByteArray, i < len → (∃ c, Kd.string.K W y c ∧ ∀ j u, c[j]? = some u → W.cell? (ad.add (i * 1 + j)) = some u) ∧ y.size ∈ x.1.weights Try.prog 22 := by
      intro i
      by_cases hlt : i < len
      · have h1 := hi i hlt
        have hie : i < elems.length := by omega
        rw [List.getElem?_eq_getElem hie] at h1
        obtain ⟨c, hc, ht'⟩ := Option.bind_eq_some_iff.1 h1
        obtain ⟨s, rfl, hs2, _⟩ := DataW.trod_string Try.underlying9 ht'
        refine ⟨s, fun _ => ⟨⟨_, rfl, fun j u hj => ?_⟩, ?_⟩⟩
        · obtain ⟨_, hcl, hcc⟩ := World.cells?_some hc
          have hjl := (List.getElem?_eq_some_iff.1 hj).1
          have h2 := hcc j (by simpa using hjl)
          rw [hj] at h2
          rw [← h2, add_two]
        · rw [hw]
          refine List.mem_cons_of_mem _ (List.mem_append_left _ (weightsAll_mem (d := (elems[i]).1) (List.mem_map.2 ⟨elems[i], List.getElem_mem hie, rfl⟩) ?_))
          rw [hs2]
          show s.size ∈ [s.data.toList.length]
          exact List.mem_singleton.2 rfl
      · exact ⟨ByteArray.empty, fun h => absurd h hlt⟩
    obtain ⟨f, hf'⟩ := Classical.axiomOfChoice hy
    have hlen : ((List.range len).map f).length = len := by simp
    refine ⟨(List.range len).map f, some ad, cap, by rw [hlen], by rw [hlen]; exact hlc, ?_, ?_, Or.inr ⟨_, ?_, by rw [hw]; exact List.mem_cons_self⟩⟩
    · rw [hlen]
      refine ⟨by simp, by unfold maxLen at hcm; omega, fun _ => ⟨ad, rfl, fun j p hj => ?_⟩⟩
      have hjl : j < len := by
        have := (List.getElem?_eq_some_iff.1 hj).1
        simpa using this
      have hp : p = f j := by simpa [hjl] using hj.symm
      subst hp
      obtain ⟨⟨c, hK, hcc⟩, -⟩ := hf' j hjl
      exact ⟨c, Kd.string.K_len hK, hK, hcc⟩
    · intro y hy'
      obtain ⟨i, hi', rfl⟩ := List.mem_map.1 hy'
      exact (hf' i (List.mem_range.1 hi')).2
    · rw [hlen, hel', show Try.prog.bytesOf 9 = 16 by kernel_rfl]
      omega
end Go.Proofs.Ytijjebogbjaeiaa.St
