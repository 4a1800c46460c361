/- The argument opened. -/
import Derived.Test.YtchbjjefjmcakaaLt
import Derived.ChangeArms
import Derived.Deep.Slices
import Derived.ProofKit
import Derived.OpenShut
namespace Go.Proofs.Ytchbjjefjmcakaa.Lb
open Go.RowKit Go.Proofs.Ytchbjjefjmcakaa.PLayoutBlocks Go.Proofs.YtchbjjefjmcakaaW.PrintWords Go.Proofs.YtchbjjefjmcakaaW.PrintLast Go.Proofs.YtchbjjefjmcakaaW.PrintMore
set_option linter.unusedVariables false
theorem ce27 : Try.prog.cellsOf 27 = 5 := by kernel_rfl
theorem ce3 : Try.prog.cellsOf 3 = 1 := by kernel_rfl
theorem ce9 : Try.prog.cellsOf 9 = 1 := by kernel_rfl
theorem add_two (a : Addr) (m n : Nat) : (a.add m).add n = a.add (m + n) := by
  unfold Addr.add
  by_cases hm : m = 0
  · subst hm; simp
  · by_cases hn : n = 0
    · subst hn; simp
    · rw [if_neg hm, if_neg hn, if_neg (by omega), Nat.add_assoc]

/-- A slice argument whose elements open. -/
theorem open_slice_of {P : Program} {H : Type} {enc : TypeId × Value → H} {W : World} {α : Type} (k : Kd α) (z : α) {t e : TypeId} (ht : P.underlying t = some (.slice e)) (hce : P.cellsOf e = k.sz)
    (hel : ∀ (n : Nat) (cs : List Value) (x : DataW H × List MemPlace), DataW.trod enc P W 0 (fun _ => true) true n e cs = some x → ∃ y : α, k.K W y cs)
    {m : Nat} {d : Value} {x : DataW H × List MemPlace} (h : DataW.trod enc P W 0 (fun _ => true) true m t [d] = some x) : ∃ (l : List α) (A : Option Addr) (c : Nat), d = .slice A l.length c ∧ l.length ≤ c ∧ k.C W A l.length l := by
  rcases DataW.trod_slice ht h with ⟨q3, _⟩ | ⟨ad, len, cap, elems, rest, n, hk, q3, _, _, hlc, hcm, hel', hi, _, _⟩
  · obtain rfl : d = .slice none 0 0 := by simpa using q3
    exact ⟨[], none, 0, rfl, Nat.le_refl _, Kd.C_nil k W⟩
  · obtain rfl : d = .slice (some ad) len cap := by simpa using q3
    rw [hce] at hi
    have hy : ∀ i, ∃ y : α, i < len → ∃ c, k.K W y c ∧ ∀ j u, c[j]? = some u → W.cell? (ad.add (i * k.sz + j)) = some u := by
      intro i
      by_cases hlt : i < len
      · have h1 := hi i hlt
        rw [List.getElem?_eq_getElem (by omega)] at h1
        obtain ⟨c, hc, ht'⟩ := Option.bind_eq_some_iff.1 h1
        obtain ⟨y, hK⟩ := hel _ c _ ht'
        refine ⟨y, fun _ => ⟨c, hK, fun j u hj => ?_⟩⟩
        obtain ⟨_, hcl, hcc⟩ := World.cells?_some hc
        have hjl := (List.getElem?_eq_some_iff.1 hj).1
        have h2 := hcc j (by omega)
        rw [hj] at h2
        rw [← h2, add_two]
      · exact ⟨z, fun h => absurd h hlt⟩
    obtain ⟨f, hf'⟩ := Classical.axiomOfChoice hy
    have hlen : ((List.range len).map f).length = len := by simp
    refine ⟨(List.range len).map f, some ad, cap, by rw [hlen], by rw [hlen]; exact hlc, ?_⟩
    rw [hlen]
    refine ⟨by simp, by unfold maxLen at hcm; omega, fun _ => ⟨ad, rfl, fun j p hj => ?_⟩⟩
    have hjl : j < len := by
      have := (List.getElem?_eq_some_iff.1 hj).1
      simpa using this
    have hp : p = f j := by simpa [hjl] using hj.symm
    subst hp
    obtain ⟨c, hK, hcc⟩ := hf' j hjl
    exact ⟨c, k.K_len hK, hK, hcc⟩

theorem open27 {H : Type} {enc : TypeId × Value → H} {W : World} (n : Nat) (cs : List Value) (x : DataW H × List MemPlace) (h : DataW.trod enc Try.prog W 0 (fun _ => true) true n 27 cs = some x) : ∃ y : S27, k27.K W y cs := by
  obtain ⟨xs, m, rfl, rfl, hl, hxl, hf⟩ := DataW.trod_struct Try.underlying27 h
  rw [ce27] at hl
  obtain ⟨a0, a1, a2, a3, a4, rfl⟩ : ∃ a0 a1 a2 a3 a4, cs = [a0, a1, a2, a3, a4] := by
    match cs, hl with
    | [a0, a1, a2, a3, a4], _ => exact ⟨a0, a1, a2, a3, a4, rfl⟩
  have hg : ∀ i, i < 5 → ∃ z, xs[i]? = some z := fun i hi => ⟨xs[i]'(by simpa using (by rw [hxl]; exact hi)), List.getElem?_eq_getElem _⟩
  obtain ⟨z0, hz0⟩ := hg 0 (by omega)
  obtain ⟨z1, hz1⟩ := hg 1 (by omega)
  obtain ⟨z2, hz2⟩ := hg 2 (by omega)
  obtain ⟨z3, hz3⟩ := hg 3 (by omega)
  obtain ⟨z4, hz4⟩ := hg 4 (by omega)
  have e0 := hf 0 _ rfl
  have e1 := hf 1 _ rfl
  have e2 := hf 2 _ rfl
  have e3 := hf 3 _ rfl
  have e4 := hf 4 _ rfl
  rw [hz0] at e0
  rw [hz1] at e1
  rw [hz2] at e2
  rw [hz3] at e3
  rw [hz4] at e4
  replace e0 : DataW.trod enc Try.prog W 0 (fun _ => true) true m 3 [a0] = some z0 := by rw [← e0]; show _ = DataW.trod enc Try.prog W 0 (fun _ => true) true m 3 (List.take (Try.prog.cellsOf 3) _); rw [ce3]; rfl
  replace e1 : DataW.trod enc Try.prog W 0 (fun _ => true) true m 9 [a1] = some z1 := by rw [← e1]; show _ = DataW.trod enc Try.prog W 0 (fun _ => true) true m 9 (List.take (Try.prog.cellsOf 9) _); rw [ce9]; rfl
  replace e2 : DataW.trod enc Try.prog W 0 (fun _ => true) true m 3 [a2] = some z2 := by rw [← e2]; show _ = DataW.trod enc Try.prog W 0 (fun _ => true) true m 3 (List.take (Try.prog.cellsOf 3) _); rw [ce3]; rfl
  replace e3 : DataW.trod enc Try.prog W 0 (fun _ => true) true m 3 [a3] = some z3 := by rw [← e3]; show _ = DataW.trod enc Try.prog W 0 (fun _ => true) true m 3 (List.take (Try.prog.cellsOf 3) _); rw [ce3]; rfl
  replace e4 : DataW.trod enc Try.prog W 0 (fun _ => true) true m 3 [a4] = some z4 := by rw [← e4]; show _ = DataW.trod enc Try.prog W 0 (fun _ => true) true m 3 (List.take (Try.prog.cellsOf 3) _); rw [ce3]; rfl
  obtain ⟨x0, q0, _, _⟩ := DataW.trod_int Try.underlying3 e0
  obtain ⟨x1, q1, _, _⟩ := DataW.trod_string Try.underlying9 e1
  obtain ⟨x2, q2, _, _⟩ := DataW.trod_int Try.underlying3 e2
  obtain ⟨x3, q3, _, _⟩ := DataW.trod_int Try.underlying3 e3
  obtain ⟨x4, q4, _, _⟩ := DataW.trod_int Try.underlying3 e4
  obtain rfl : a0 = .int .i64 x0 := by simpa using q0
  obtain rfl : a1 = .string x1 := by simpa using q1
  obtain rfl : a2 = .int .i64 x2 := by simpa using q2
  obtain rfl : a3 = .int .i64 x3 := by simpa using q3
  obtain rfl : a4 = .int .i64 x4 := by simpa using q4
  exact ⟨⟨x0, x1, x2, x3, x4⟩, k27_mk W ⟨x0, x1, x2, x3, x4⟩⟩
end Go.Proofs.Ytchbjjefjmcakaa.Lb
