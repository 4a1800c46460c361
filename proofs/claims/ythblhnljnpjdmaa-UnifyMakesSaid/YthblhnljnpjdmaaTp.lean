import Derived.Test.YthblhnljnpjdmaaTm
import Derived.ChangeArms
import Derived.Deep.Slices
import Derived.ProofKit
import Derived.OpenShut
namespace Go.Proofs.Ythblhnljnpjdmaa.Ty
open Go.RowKit Go.Proofs.Ythblhnljnpjdmaa.PUnifyMakes Go.Proofs.YthblhnljnpjdmaaW.PrintWords Go.Proofs.YthblhnljnpjdmaaW.PrintLast Go.Proofs.YthblhnljnpjdmaaW.PrintMore
theorem ce24 : Try.prog.cellsOf 24 = 4 := by kernel_rfl
theorem ce22 : Try.prog.cellsOf 22 = 1 := by kernel_rfl
theorem ce3 : Try.prog.cellsOf 3 = 1 := by kernel_rfl
theorem ce9 : Try.prog.cellsOf 9 = 1 := by kernel_rfl

theorem add_two (a : Addr) (m n : Nat) : (a.add m).add n = a.add (m + n) := by
  unfold Addr.add
  by_cases hm : m = 0
  · subst hm; simp
  · by_cases hn : n = 0
    · subst hn; simp
    · rw [if_neg hm, if_neg hn, if_neg (by omega), Nat.add_assoc]

theorem open_type {H : Type} {enc : TypeId × Value → H} {W : World} : ∀ (n : Nat) (cs : List Value) (x : DataW H × List MemPlace), DataW.trod enc Try.prog W 0 (fun _ => true) true n 24 cs = some x → ∃ y : S24, k24.K W y cs := by
  intro n
  induction n using Nat.strongRecOn with
  | ind n ih =>
    intro cs x h
    obtain ⟨xs, m, rfl, rfl, hl, hxl, hf⟩ := DataW.trod_struct Try.underlying24 h
    rw [ce24] at hl
    obtain ⟨a, b, c, d, rfl⟩ : ∃ a b c d, cs = [a, b, c, d] := by
      match cs, hl with
      | [a, b, c, d], _ => exact ⟨a, b, c, d, rfl⟩
    have hg : ∀ i, i < 4 → ∃ z, xs[i]? = some z := fun i hi => ⟨xs[i]'(by simpa using (by rw [hxl]; exact hi)), List.getElem?_eq_getElem _⟩
    obtain ⟨z0, hz0⟩ := hg 0 (by omega)
    obtain ⟨z1, hz1⟩ := hg 1 (by omega)
    obtain ⟨z2, hz2⟩ := hg 2 (by omega)
    obtain ⟨z3, hz3⟩ := hg 3 (by omega)
    have e0 := hf 0 _ rfl
    have e1 := hf 1 _ rfl
    have e2 := hf 2 _ rfl
    have e3 := hf 3 _ rfl
    rw [hz0] at e0
    rw [hz1] at e1
    rw [hz2] at e2
    rw [hz3] at e3
    replace e0 : DataW.trod enc Try.prog W 0 (fun _ => true) true m 3 [a] = some z0 := by rw [← e0]; show _ = DataW.trod enc Try.prog W 0 (fun _ => true) true m 3 (List.take (Try.prog.cellsOf 3) _); rw [ce3]; rfl
    replace e1 : DataW.trod enc Try.prog W 0 (fun _ => true) true m 9 [b] = some z1 := by rw [← e1]; show _ = DataW.trod enc Try.prog W 0 (fun _ => true) true m 9 (List.take (Try.prog.cellsOf 9) _); rw [ce9]; rfl
    replace e2 : DataW.trod enc Try.prog W 0 (fun _ => true) true m 3 [c] = some z2 := by rw [← e2]; show _ = DataW.trod enc Try.prog W 0 (fun _ => true) true m 3 (List.take (Try.prog.cellsOf 3) _); rw [ce3]; rfl
    replace e3 : DataW.trod enc Try.prog W 0 (fun _ => true) true m 22 [d] = some z3 := by rw [← e3]; show _ = DataW.trod enc Try.prog W 0 (fun _ => true) true m 22 (List.take (Try.prog.cellsOf 22) _); rw [ce22]; rfl
    obtain ⟨n0, q0, _, _⟩ := DataW.trod_int Try.underlying3 e0
    obtain ⟨s1, q1, _, _⟩ := DataW.trod_string Try.underlying9 e1
    obtain ⟨n2, q2, _, _⟩ := DataW.trod_int Try.underlying3 e2
    obtain rfl : a = .int .i64 n0 := by simpa using q0
    obtain rfl : b = .string s1 := by simpa using q1
    obtain rfl : c = .int .i64 n2 := by simpa using q2
    rcases DataW.trod_slice Try.underlying22 e3 with ⟨q3, _⟩ | ⟨ad, len, cap, elems, rest, k, hk, q3, _, _, hlc, hcm, hel, hi, _, _⟩
    · obtain rfl : d = .slice none 0 0 := by simpa using q3
      exact ⟨⟨n0, s1, n2, []⟩, k24_mk W ⟨n0, s1, n2, []⟩ (Nat.le_refl _) (Kd.C_nil k24 W)⟩
    · obtain rfl : d = .slice (some ad) len cap := by simpa using q3
      rw [ce24] at hi
      have hy : ∀ i, ∃ y : S24, i < len → ∃ c, k24.K W y c ∧ ∀ j u, c[j]? = some u → W.cell? (ad.add (i * 4 + j)) = some u := by
        intro i
        by_cases hlt : i < len
        · have h1 := hi i hlt
          rw [List.getElem?_eq_getElem (by omega)] at h1
          obtain ⟨c, hc, ht⟩ := Option.bind_eq_some_iff.1 h1
          obtain ⟨y, hK⟩ := ih k (by omega) c _ ht
          refine ⟨y, fun _ => ⟨c, hK, fun j u hj => ?_⟩⟩
          obtain ⟨_, hcl, hcc⟩ := World.cells?_some hc
          have hjl := (List.getElem?_eq_some_iff.1 hj).1
          have h2 := hcc j (by omega)
          rw [hj] at h2
          rw [← h2, add_two]
        · exact ⟨z24, fun h => absurd h hlt⟩
      obtain ⟨f, hf'⟩ := Classical.axiomOfChoice hy
      have hlen : ((List.range len).map f).length = len := by simp
      refine ⟨⟨n0, s1, n2, (List.range len).map f⟩, ?_⟩
      have := k24_mk W ⟨n0, s1, n2, (List.range len).map f⟩ (A3 := some ad) (c3 := cap) (by simpa using hlc) ⟨rfl, by simp; unfold maxLen at hcm; omega, fun _ => ⟨ad, rfl, fun j p hj => ?_⟩⟩
      · simpa using this
      · have hjl : j < len := by
          have := (List.getElem?_eq_some_iff.1 hj).1
          simpa using this
        have hp : p = f j := by simpa [hjl] using hj.symm
        subst hp
        obtain ⟨c, hK, hcc⟩ := hf' j hjl
        exact ⟨c, k24.K_len hK, hK, hcc⟩
end Go.Proofs.Ythblhnljnpjdmaa.Ty
