import Derived.Test.YtlkoihhlbhcfpaaFh
import Derived.ChangeArms
import Derived.Deep.Slices
import Derived.ProofKit
import Derived.OpenShut
namespace Go.Proofs.Ytlkoihhlbhcfpaa.Fx
open Go.RowKit Go.Proofs.Ytlkoihhlbhcfpaa.PFixityTree Go.Proofs.YtlkoihhlbhcfpaaW.PrintWords Go.Proofs.YtlkoihhlbhcfpaaW.PrintLast Go.Proofs.YtlkoihhlbhcfpaaW.PrintMore
set_option linter.unusedVariables false
theorem ce42 : Try.prog.cellsOf 42 = 3 := by kernel_rfl
theorem ce29 : Try.prog.cellsOf 29 = 2 := by kernel_rfl
theorem ce3 : Try.prog.cellsOf 3 = 1 := by kernel_rfl
theorem ce9 : Try.prog.cellsOf 9 = 1 := by kernel_rfl

theorem add_two (a : Addr) (m n : Nat) : (a.add m).add n = a.add (m + n) := by
  unfold Addr.add
  by_cases hm : m = 0
  · subst hm; simp
  · by_cases hn : n = 0
    · subst hn; simp
    · rw [if_neg hm, if_neg hn, if_neg (by omega), Nat.add_assoc]

/-- A slice argument whose elements open. -/
theorem open_slice_of {P : Program} {H : Type} {enc : TypeId × Value → H} {W : World} {α : Type} (k : Kd α) (z : α) {t e : TypeId} (ht : P.underlying t = some (.slice e)) (hce : P.cellsOf e = k.sz)
    (hel : ∀ (n : Nat) (cs : List Value) (x : DataW H × List MemPlace), DataW.trod enc P W 0 (fun _ => true) true n e cs = some x → ∃ y : α, k.K W y cs)
    {m : Nat} {d : Value} {x : DataW H × List MemPlace} (h : DataW.trod enc P W 0 (fun _ => true) true m t [d] = some x) : ∃ (l : List α) (A : Option Addr) (c : Nat), d = .slice A l.length c ∧ l.length ≤ c ∧ k.C W A l.length l := by
  rcases DataW.trod_slice ht h with ⟨q3, _⟩ | ⟨ad, len, cap, elems, rest, n, hk, q3, _, _, hlc, hcm, hel', hi, _, _⟩
  · obtain rfl : d = .slice none 0 0 := by simpa using q3
    exact ⟨[], none, 0, rfl, Nat.le_refl _, Kd.C_nil k W⟩
  · obtain rfl : d = .slice (some ad) len cap := by simpa using q3
    rw [hce] at hi
    have hy : ∀ i, ∃ y : α, i < len → ∃ c, k.K W y c ∧ ∀ j u, c[j]? = some u → W.cell? (ad.add (i * k.sz + j)) = some u := by
      intro i
      by_cases hlt : i < len
      · have h1 := hi i hlt
        rw [List.getElem?_eq_getElem (by omega)] at h1
        obtain ⟨c, hc, ht'⟩ := Option.bind_eq_some_iff.1 h1
        obtain ⟨y, hK⟩ := hel _ c _ ht'
        refine ⟨y, fun _ => ⟨c, hK, fun j u hj => ?_⟩⟩
        obtain ⟨_, hcl, hcc⟩ := World.cells?_some hc
        have hjl := (List.getElem?_eq_some_iff.1 hj).1
        have h2 := hcc j (by omega)
        rw [hj] at h2
        rw [← h2, add_two]
      · exact ⟨z, fun h => absurd h hlt⟩
    obtain ⟨f, hf'⟩ := Classical.axiomOfChoice hy
    have hlen : ((List.range len).map f).length = len := by simp
    refine ⟨(List.range len).map f, some ad, cap, by rw [hlen], by rw [hlen]; exact hlc, ?_⟩
    rw [hlen]
    refine ⟨by simp, by unfold maxLen at hcm; omega, fun _ => ⟨ad, rfl, fun j p hj => ?_⟩⟩
    have hjl : j < len := by
      have := (List.getElem?_eq_some_iff.1 hj).1
      simpa using this
    have hp : p = f j := by simpa [hjl] using hj.symm
    subst hp
    obtain ⟨c, hK, hcc⟩ := hf' j hjl
    exact ⟨c, k.K_len hK, hK, hcc⟩

theorem open42 {H : Type} {enc : TypeId × Value → H} {W : World} (n : Nat) (cs : List Value) (x : DataW H × List MemPlace) (h : DataW.trod enc Try.prog W 0 (fun _ => true) true n 42 cs = some x) : ∃ y : S42, k42.K W y cs := by
  obtain ⟨xs, m, rfl, rfl, hl, hxl, hf⟩ := DataW.trod_struct Try.underlying42 h
  rw [ce42] at hl
  obtain ⟨a, b, c, rfl⟩ : ∃ a b c, cs = [a, b, c] := by
    match cs, hl with
    | [a, b, c], _ => exact ⟨a, b, c, rfl⟩
  have hg : ∀ i, i < 3 → ∃ z, xs[i]? = some z := fun i hi => ⟨xs[i]'(by simpa using (by rw [hxl]; exact hi)), List.getElem?_eq_getElem _⟩
  obtain ⟨z0, hz0⟩ := hg 0 (by omega)
  obtain ⟨z1, hz1⟩ := hg 1 (by omega)
  obtain ⟨z2, hz2⟩ := hg 2 (by omega)
  have e0 := hf 0 _ rfl
  have e1 := hf 1 _ rfl
  have e2 := hf 2 _ rfl
  rw [hz0] at e0
  rw [hz1] at e1
  rw [hz2] at e2
  replace e0 : DataW.trod enc Try.prog W 0 (fun _ => true) true m 9 [a] = some z0 := by rw [← e0]; show _ = DataW.trod enc Try.prog W 0 (fun _ => true) true m 9 (List.take (Try.prog.cellsOf 9) _); rw [ce9]; rfl
  replace e1 : DataW.trod enc Try.prog W 0 (fun _ => true) true m 3 [b] = some z1 := by rw [← e1]; show _ = DataW.trod enc Try.prog W 0 (fun _ => true) true m 3 (List.take (Try.prog.cellsOf 3) _); rw [ce3]; rfl
  replace e2 : DataW.trod enc Try.prog W 0 (fun _ => true) true m 3 [c] = some z2 := by rw [← e2]; show _ = DataW.trod enc Try.prog W 0 (fun _ => true) true m 3 (List.take (Try.prog.cellsOf 3) _); rw [ce3]; rfl
  obtain ⟨s0, q0, _, _⟩ := DataW.trod_string Try.underlying9 e0
  obtain ⟨n1, q1, _, _⟩ := DataW.trod_int Try.underlying3 e1
  obtain ⟨n2, q2, _, _⟩ := DataW.trod_int Try.underlying3 e2
  obtain rfl : a = .string s0 := by simpa using q0
  obtain rfl : b = .int .i64 n1 := by simpa using q1
  obtain rfl : c = .int .i64 n2 := by simpa using q2
  exact ⟨⟨s0, n1, n2⟩, k42_mk W ⟨s0, n1, n2⟩⟩

theorem open29 {H : Type} {enc : TypeId × Value → H} {W : World} (n : Nat) (cs : List Value) (x : DataW H × List MemPlace) (h : DataW.trod enc Try.prog W 0 (fun _ => true) true n 29 cs = some x) : ∃ y : S29, k29.K W y cs := by
  obtain ⟨xs, m, rfl, rfl, hl, hxl, hf⟩ := DataW.trod_struct Try.underlying29 h
  rw [ce29] at hl
  obtain ⟨a, b, rfl⟩ : ∃ a b, cs = [a, b] := by
    match cs, hl with
    | [a, b], _ => exact ⟨a, b, rfl⟩
  have hg : ∀ i, i < 2 → ∃ z, xs[i]? = some z := fun i hi => ⟨xs[i]'(by simpa using (by rw [hxl]; exact hi)), List.getElem?_eq_getElem _⟩
  obtain ⟨z0, hz0⟩ := hg 0 (by omega)
  obtain ⟨z1, hz1⟩ := hg 1 (by omega)
  have e0 := hf 0 _ rfl
  have e1 := hf 1 _ rfl
  rw [hz0] at e0
  rw [hz1] at e1
  replace e0 : DataW.trod enc Try.prog W 0 (fun _ => true) true m 9 [a] = some z0 := by rw [← e0]; show _ = DataW.trod enc Try.prog W 0 (fun _ => true) true m 9 (List.take (Try.prog.cellsOf 9) _); rw [ce9]; rfl
  replace e1 : DataW.trod enc Try.prog W 0 (fun _ => true) true m 3 [b] = some z1 := by rw [← e1]; show _ = DataW.trod enc Try.prog W 0 (fun _ => true) true m 3 (List.take (Try.prog.cellsOf 3) _); rw [ce3]; rfl
  obtain ⟨s0, q0, _, _⟩ := DataW.trod_string Try.underlying9 e0
  obtain ⟨n1, q1, _, _⟩ := DataW.trod_int Try.underlying3 e1
  obtain rfl : a = .string s0 := by simpa using q0
  obtain rfl : b = .int .i64 n1 := by simpa using q1
  exact ⟨⟨s0, n1⟩, k29_mk W ⟨s0, n1⟩⟩
end Go.Proofs.Ytlkoihhlbhcfpaa.Fx
