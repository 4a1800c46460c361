import Derived.Test.YtemdfhaceddmpaaPPrinterTellsx0
import Derived.ChangeArms
import Derived.Deep.Slices
import Derived.ProofKit
import Derived.OpenShut
import Derived.SizedLaws
namespace Go.Proofs.Ytemdfhaceddmpaa.Tr
open Go.RowKit Go.Proofs.Ytemdfhaceddmpaa.PPrinterTells Go.Proofs.YtemdfhaceddmpaaW.PrintWords Go.Proofs.YtemdfhaceddmpaaW.PrintLast Go.Proofs.YtemdfhaceddmpaaW.PrintMore
set_option linter.unusedVariables false
theorem ce27 : Try.prog.cellsOf 27 = 6 := by kernel_rfl
theorem ce25 : Try.prog.cellsOf 25 = 1 := by kernel_rfl
theorem ce3 : Try.prog.cellsOf 3 = 1 := by kernel_rfl
theorem ce9 : Try.prog.cellsOf 9 = 1 := by kernel_rfl
theorem by3 : Try.prog.bytesOf 3 = 8 := by kernel_rfl
theorem by27 : Try.prog.bytesOf 27 = 72 := by kernel_rfl

theorem add_two (a : Addr) (m n : Nat) : (a.add m).add n = a.add (m + n) := by
  unfold Addr.add
  by_cases hm : m = 0
  · subst hm; simp
  · by_cases hn : n = 0
    · subst hn; simp
    · rw [if_neg hm, if_neg hn, if_neg (by omega), Nat.add_assoc]
theorem mem_weightsAll {H : Type} {P : Program} {e : TypeId} {ds : List (DataW H)} {d : DataW H} (h : d ∈ ds) {v : Nat} (hv : v ∈ d.weights P e) : v ∈ DataW.weightsAll P e ds := by
  induction ds with
  | nil => cases h
  | cons a ds ih =>
    rw [DataW.weightsAll, List.mem_append]
    rcases List.mem_cons.1 h with rfl | h
    · exact Or.inl hv
    · exact Or.inr (ih h)

/-- A slice argument whose elements open, with what each weighs. -/
theorem open_sliceW {P : Program} {H : Type} {enc : TypeId × Value → H} {W : World} {α : Type} (k : Kd α) (z : α) (Q : α → Prop) (M : Nat) {t e : TypeId} (ht : P.underlying t = some (.slice e)) (hce : P.cellsOf e = k.sz)
    (hel : ∀ (n : Nat) (cs : List Value) (x : DataW H × List MemPlace), DataW.trod enc P W 0 (fun _ => true) true n e cs = some x → (∀ v ∈ x.1.weights P e, v ≤ M) → ∃ y : α, k.K W y cs ∧ Q y)
    {m : Nat} {d : Value} {x : DataW H × List MemPlace} (h : DataW.trod enc P W 0 (fun _ => true) true m t [d] = some x) (hw : ∀ v ∈ x.1.weights P t, v ≤ M) :
    ∃ (l : List α) (A : Option Addr) (c : Nat), d = .slice A l.length c ∧ l.length ≤ c ∧ k.C W A l.length l ∧ (∀ y ∈ l, Q y) ∧ l.length * P.bytesOf e ≤ M := by
  rcases DataW.trod_slice ht h with ⟨q3, _⟩ | ⟨ad, len, cap, elems, rest, n, hk, q3, q4, _, hlc, hcm, hel', hi, _, _⟩
  · obtain rfl : d = .slice none 0 0 := by simpa using q3
    exact ⟨[], none, 0, rfl, Nat.le_refl _, Kd.C_nil k W, fun y hy => by simp at hy, by simp⟩
  · obtain rfl : d = .slice (some ad) len cap := by simpa using q3
    rw [hce] at hi
    have hwx : x.1.weights P t = ((elems.map (·.1)).length + (rest.map (·.1)).length) * P.bytesOf e :: (DataW.weightsAll P e (elems.map (·.1)) ++ DataW.weightsAll P e (rest.map (·.1))) := by
      rw [q4]; simp only [DataW.weights, ht]
    have hlen0 : len * P.bytesOf e ≤ M := by
      have h1 := hw _ (by rw [hwx]; exact List.mem_cons_self)
      rw [List.length_map, hel'] at h1
      exact Nat.le_trans (Nat.mul_le_mul_right _ (Nat.le_add_right _ _)) h1
    have hy : ∀ i, ∃ y : α, i < len → Q y ∧ ∃ c, k.K W y c ∧ ∀ j u, c[j]? = some u → W.cell? (ad.add (i * k.sz + j)) = some u := by
      intro i
      by_cases hlt : i < len
      · have h1 := hi i hlt
        rw [List.getElem?_eq_getElem (by omega)] at h1
        obtain ⟨c, hc, ht'⟩ := Option.bind_eq_some_iff.1 h1
        obtain ⟨y, hK, hQ⟩ := hel _ c _ ht' (fun v hv => hw v (by
          rw [hwx]
          refine List.mem_cons_of_mem _ (List.mem_append_left _ (mem_weightsAll (List.mem_map.2 ⟨_, List.getElem_mem _, rfl⟩) hv))))
        refine ⟨y, fun _ => ⟨hQ, c, hK, fun j u hj => ?_⟩⟩
        obtain ⟨_, hcl, hcc⟩ := World.cells?_some hc
        have hjl := (List.getElem?_eq_some_iff.1 hj).1
        have h2 := hcc j (by omega)
        rw [hj] at h2
        rw [← h2, add_two]
      · exact ⟨z, fun h => absurd h hlt⟩
    obtain ⟨f, hf'⟩ := Classical.axiomOfChoice hy
    have hlen : ((List.range len).map f).length = len := by simp
    refine ⟨(List.range len).map f, some ad, cap, by rw [hlen], by rw [hlen]; exact hlc, ?_, ?_, by rw [hlen]; exact hlen0⟩
    · rw [hlen]
      refine ⟨by simp, by unfold maxLen at hcm; omega, fun _ => ⟨ad, rfl, fun j p hj => ?_⟩⟩
      have hjl : j < len := by
        have := (List.getElem?_eq_some_iff.1 hj).1
        simpa using this
      have hp : p = f j := by simpa [hjl] using hj.symm
      subst hp
      obtain ⟨-, c, hK, hcc⟩ := hf' j hjl
      exact ⟨c, k.K_len hK, hK, hcc⟩
    · intro y hy
      obtain ⟨j, hj, rfl⟩ := List.mem_map.1 hy
      exact (hf' j (List.mem_range.1 hj)).1

theorem open3 {H : Type} {enc : TypeId × Value → H} {W : World} (n : Nat) (cs : List Value) (x : DataW H × List MemPlace) (h : DataW.trod enc Try.prog W 0 (fun _ => true) true n 3 cs = some x) : ∃ y : Int, (Kd.int .i64).K W y cs := by
  obtain ⟨n1, q1, _, _⟩ := DataW.trod_int Try.underlying3 h
  exact ⟨n1, q1⟩
def QN (y : S27) : Prop := y.f3.length * 8 ≤ 140737488351232 ∧ y.f1.size ≤ 140737488351232
theorem open27 {H : Type} {enc : TypeId × Value → H} {W : World} (n : Nat) (cs : List Value) (x : DataW H × List MemPlace) (h : DataW.trod enc Try.prog W 0 (fun _ => true) true n 27 cs = some x) (hw : ∀ v ∈ x.1.weights Try.prog 27, v ≤ 140737488351232) : ∃ y : S27, k27.K W y cs ∧ QN y := by
  obtain ⟨xs, m, rfl, rfl, hl, hxl, hf⟩ := DataW.trod_struct Try.underlying27 h
  rw [ce27] at hl
  obtain ⟨a0, a1, a2, a3, a4, a5, rfl⟩ : ∃ a0 a1 a2 a3 a4 a5, cs = [a0, a1, a2, a3, a4, a5] := by
    match cs, hl with
    | [a0, a1, a2, a3, a4, a5], _ => exact ⟨a0, a1, a2, a3, a4, a5, rfl⟩
  obtain ⟨z0, z1, z2, z3, z4, z5, rfl⟩ : ∃ z0 z1 z2 z3 z4 z5, xs = [z0, z1, z2, z3, z4, z5] := by
    have hxl' : xs.length = 6 := hxl
    match xs, hxl' with
    | [z0, z1, z2, z3, z4, z5], _ => exact ⟨z0, z1, z2, z3, z4, z5, rfl⟩
  have e0 := hf 0 _ rfl
  have e1 := hf 1 _ rfl
  have e2 := hf 2 _ rfl
  have e3 := hf 3 _ rfl
  have e4 := hf 4 _ rfl
  have e5 := hf 5 _ rfl
  replace e0 : DataW.trod enc Try.prog W 0 (fun _ => true) true m 3 [a0] = some z0 := by
    have h : DataW.trod enc Try.prog W 0 (fun _ => true) true m 3 (List.take (Try.prog.cellsOf 3) [a0, a1, a2, a3, a4, a5]) = some z0 := e0
    rw [ce3] at h; exact h
  replace e1 : DataW.trod enc Try.prog W 0 (fun _ => true) true m 9 [a1] = some z1 := by
    have h : DataW.trod enc Try.prog W 0 (fun _ => true) true m 9 (List.take (Try.prog.cellsOf 9) [a1, a2, a3, a4, a5]) = some z1 := e1
    rw [ce9] at h; exact h
  replace e2 : DataW.trod enc Try.prog W 0 (fun _ => true) true m 3 [a2] = some z2 := by
    have h : DataW.trod enc Try.prog W 0 (fun _ => true) true m 3 (List.take (Try.prog.cellsOf 3) [a2, a3, a4, a5]) = some z2 := e2
    rw [ce3] at h; exact h
  replace e3 : DataW.trod enc Try.prog W 0 (fun _ => true) true m 25 [a3] = some z3 := by
    have h : DataW.trod enc Try.prog W 0 (fun _ => true) true m 25 (List.take (Try.prog.cellsOf 25) [a3, a4, a5]) = some z3 := e3
    rw [ce25] at h; exact h
  replace e4 : DataW.trod enc Try.prog W 0 (fun _ => true) true m 3 [a4] = some z4 := by
    have h : DataW.trod enc Try.prog W 0 (fun _ => true) true m 3 (List.take (Try.prog.cellsOf 3) [a4, a5]) = some z4 := e4
    rw [ce3] at h; exact h
  replace e5 : DataW.trod enc Try.prog W 0 (fun _ => true) true m 3 [a5] = some z5 := by
    have h : DataW.trod enc Try.prog W 0 (fun _ => true) true m 3 (List.take (Try.prog.cellsOf 3) [a5]) = some z5 := e5
    rw [ce3] at h; exact h
  have hw1 : ∀ v ∈ z1.1.weights Try.prog 9, v ≤ 140737488351232 := by
    intro v hv
    refine hw v ?_
    have h : (DataW.agg ([z0, z1, z2, z3, z4, z5].map (·.1))).weights Try.prog 27 = z0.1.weights Try.prog 3 ++ (z1.1.weights Try.prog 9 ++ (z2.1.weights Try.prog 3 ++ (z3.1.weights Try.prog 25 ++ (z4.1.weights Try.prog 3 ++ (z5.1.weights Try.prog 3 ++ []))))) := by
      simp only [DataW.weights, Try.underlying27]
      rfl
    rw [h]
    exact List.mem_append_right _ (List.mem_append_left _ hv)
  have hw3 : ∀ v ∈ z3.1.weights Try.prog 25, v ≤ 140737488351232 := by
    intro v hv
    refine hw v ?_
    have h : (DataW.agg ([z0, z1, z2, z3, z4, z5].map (·.1))).weights Try.prog 27 = z0.1.weights Try.prog 3 ++ (z1.1.weights Try.prog 9 ++ (z2.1.weights Try.prog 3 ++ (z3.1.weights Try.prog 25 ++ (z4.1.weights Try.prog 3 ++ (z5.1.weights Try.prog 3 ++ []))))) := by
      simp only [DataW.weights, Try.underlying27]
      rfl
    rw [h]
    exact List.mem_append_right _ (List.mem_append_right _ (List.mem_append_right _ (List.mem_append_left _ hv)))
  obtain ⟨n0, q0, _, _⟩ := DataW.trod_int Try.underlying3 e0
  obtain ⟨s1, q1, qx1, _⟩ := DataW.trod_string Try.underlying9 e1
  have hs1 : s1.size ≤ 140737488351232 := by
    have h := hw1 s1.data.toList.length (by rw [qx1]; simp [DataW.weights])
    rwa [Array.length_toList] at h
  obtain ⟨n2, q2, _, _⟩ := DataW.trod_int Try.underlying3 e2
  obtain ⟨l3, A3, c3, q3, hlc, hC, -, hM⟩ := open_sliceW (Kd.int .i64) 0 (fun _ => True) 140737488351232 Try.underlying25 ce3 (fun n cs x h _ => by obtain ⟨y, hy⟩ := open3 n cs x h; exact ⟨y, hy, trivial⟩) e3 hw3
  obtain ⟨n4, q4, _, _⟩ := DataW.trod_int Try.underlying3 e4
  obtain ⟨n5, q5, _, _⟩ := DataW.trod_int Try.underlying3 e5
  obtain rfl : a0 = .int .i64 n0 := by simpa using q0
  obtain rfl : a1 = .string s1 := by simpa using q1
  obtain rfl : a2 = .int .i64 n2 := by simpa using q2
  subst q3
  obtain rfl : a4 = .int .i64 n4 := by simpa using q4
  obtain rfl : a5 = .int .i64 n5 := by simpa using q5
  rw [by3] at hM
  exact ⟨⟨n0, s1, n2, l3, n4, n5⟩, k27_mk W ⟨n0, s1, n2, l3, n4, n5⟩ hlc hC, hM, hs1⟩
end Go.Proofs.Ytemdfhaceddmpaa.Tr
