import Derived.Test.YtjhinklijopobaaDoorEd
namespace Go.Proofs.YtjhinklijopobaaDoor.Co
open Go.RowKit Go.Proofs.YtjhinklijopobaaDoor.PCoreChecks Go.Proofs.YtjhinklijopobaaDoorW.PrintWords Go.Proofs.YtjhinklijopobaaDoorW.PrintLast Go.Proofs.YtjhinklijopobaaDoorW.PrintMore
set_option linter.unusedVariables false
set_option linter.unusedSimpArgs false

/-! ### Arguments that are programs -/
theorem ce91 : Tryd.prog.cellsOf 91 = 3 := by kernel_rfl
theorem ce22 : Tryd.prog.cellsOf 22 = 1 := by kernel_rfl
theorem ce49 : Tryd.prog.cellsOf 49 = 1 := by kernel_rfl
theorem ce51 : Tryd.prog.cellsOf 51 = 2 := by kernel_rfl
structure QF (y : S91) : Prop where
  small : ∀ x ∈ y.f2, Small x
  kids : ∀ x ∈ y.f2, x.f3.length * 8 ≤ 140737488351232
set_option maxRecDepth 100000 in
theorem open91 {H : Type} {enc : TypeId × Value → H} {W : World} (n : Nat) (cs : List Value) (x : DataW H × List MemPlace) (h : DataW.trod enc Tryd.prog W 0 (fun _ => true) true n 91 cs = some x) (hw : ∀ v ∈ x.1.weights Tryd.prog 91, v ≤ 140737488351232) : ∃ y : S91, k91.K W y cs ∧ QF y := by
  obtain ⟨xs, m, rfl, rfl, hl, hxl, hf⟩ := DataW.trod_struct Tryd.underlying91 h
  rw [ce91] at hl
  obtain ⟨a0, a1, a2, rfl⟩ : ∃ a0 a1 a2, cs = [a0, a1, a2] := by
    match cs, hl with
    | [a0, a1, a2], _ => exact ⟨a0, a1, a2, rfl⟩
  obtain ⟨z0, z1, z2, rfl⟩ : ∃ z0 z1 z2, xs = [z0, z1, z2] := by
    have hxl' : xs.length = 3 := hxl
    match xs, hxl' with
    | [z0, z1, z2], _ => exact ⟨z0, z1, z2, rfl⟩
  have e0 := hf 0 _ rfl
  have e1 := hf 1 _ rfl
  have e2 := hf 2 _ rfl
  replace e0 : DataW.trod enc Tryd.prog W 0 (fun _ => true) true m 3 [a0] = some z0 := by
    have h : DataW.trod enc Tryd.prog W 0 (fun _ => true) true m 3 (List.take (Tryd.prog.cellsOf 3) [a0, a1, a2]) = some z0 := e0
    rw [ce3] at h; exact h
  replace e1 : DataW.trod enc Tryd.prog W 0 (fun _ => true) true m 25 [a1] = some z1 := by
    have h : DataW.trod enc Tryd.prog W 0 (fun _ => true) true m 25 (List.take (Tryd.prog.cellsOf 25) [a1, a2]) = some z1 := e1
    rw [ce25] at h; exact h
  replace e2 : DataW.trod enc Tryd.prog W 0 (fun _ => true) true m 22 [a2] = some z2 := by
    have h : DataW.trod enc Tryd.prog W 0 (fun _ => true) true m 22 (List.take (Tryd.prog.cellsOf 22) [a2]) = some z2 := e2
    rw [ce22] at h; exact h
  have hwt : (DataW.agg ([z0, z1, z2].map (·.1))).weights Tryd.prog 91 = z0.1.weights Tryd.prog 3 ++ (z1.1.weights Tryd.prog 25 ++ (z2.1.weights Tryd.prog 22 ++ [])) := by
    simp only [DataW.weights, Tryd.underlying91]
    rfl
  have hw1 : ∀ v ∈ z1.1.weights Tryd.prog 25, v ≤ 140737488351232 := fun v hv => hw v (by rw [hwt]; exact List.mem_append_right _ (List.mem_append_left _ hv))
  have hw2 : ∀ v ∈ z2.1.weights Tryd.prog 22, v ≤ 140737488351232 := fun v hv => hw v (by rw [hwt]; exact List.mem_append_right _ (List.mem_append_right _ (List.mem_append_left _ hv)))
  obtain ⟨n0, q0, _, _⟩ := DataW.trod_int Tryd.underlying3 e0
  obtain ⟨l1, A1, c1, q1, hl1, hC1, -, -⟩ := open_sliceW (Kd.int .i64) 0 (fun _ => True) 140737488351232 Tryd.underlying25 ce3 (fun n cs x h _ => by obtain ⟨y, hy⟩ := open3 n cs x h; exact ⟨y, hy, trivial⟩) e1 hw1
  obtain ⟨l2, A2, c2, q2, hl2, hC2, hQ2, -⟩ := open_sliceW k28 z28 QE 140737488351232 Tryd.underlying22 ce28 (fun n cs x h hw => open28 n cs x h hw) e2 hw2
  obtain rfl : a0 = .int .i64 n0 := by simpa using q0
  subst q1 q2
  exact ⟨⟨n0, l1, l2⟩, k91_mk W ⟨n0, l1, l2⟩ hl1 hC1 hl2 hC2, ⟨fun x hx => (hQ2 x hx).small, fun x hx => (hQ2 x hx).kids⟩⟩
set_option maxRecDepth 100000 in
theorem open_prog {H : Type} {enc : TypeId × Value → H} {W : World} {m : Nat} {cs : List Value} {x : DataW H × List MemPlace} (h : DataW.trod enc Tryd.prog W 0 (fun _ => true) true m 51 cs = some x) (hw : ∀ v ∈ x.1.weights Tryd.prog 51, v ≤ 140737488351232) :
    ∃ (fs : List S91) (mn : Int) (A : Option Addr) (c : Nat), cs = [.slice A fs.length c, .int .i64 mn] ∧ Pin W fs mn A c := by
  obtain ⟨xs, m, rfl, rfl, hl, hxl, hf⟩ := DataW.trod_struct Tryd.underlying51 h
  rw [ce51] at hl
  obtain ⟨a0, a1, rfl⟩ : ∃ a0 a1, cs = [a0, a1] := by
    match cs, hl with
    | [a0, a1], _ => exact ⟨a0, a1, rfl⟩
  obtain ⟨z0, z1, rfl⟩ : ∃ z0 z1, xs = [z0, z1] := by
    have hxl' : xs.length = 2 := hxl
    match xs, hxl' with
    | [z0, z1], _ => exact ⟨z0, z1, rfl⟩
  have e0 := hf 0 _ rfl
  have e1 := hf 1 _ rfl
  replace e0 : DataW.trod enc Tryd.prog W 0 (fun _ => true) true m 49 [a0] = some z0 := by
    have h : DataW.trod enc Tryd.prog W 0 (fun _ => true) true m 49 (List.take (Tryd.prog.cellsOf 49) [a0, a1]) = some z0 := e0
    rw [ce49] at h; exact h
  replace e1 : DataW.trod enc Tryd.prog W 0 (fun _ => true) true m 3 [a1] = some z1 := by
    have h : DataW.trod enc Tryd.prog W 0 (fun _ => true) true m 3 (List.take (Tryd.prog.cellsOf 3) [a1]) = some z1 := e1
    rw [ce3] at h; exact h
  have hwt : (DataW.agg ([z0, z1].map (·.1))).weights Tryd.prog 51 = z0.1.weights Tryd.prog 49 ++ (z1.1.weights Tryd.prog 3 ++ []) := by
    simp only [DataW.weights, Tryd.underlying51]
    rfl
  have hw0 : ∀ v ∈ z0.1.weights Tryd.prog 49, v ≤ 140737488351232 := fun v hv => hw v (by rw [hwt]; exact List.mem_append_left _ hv)
  obtain ⟨n1, q1, _, _⟩ := DataW.trod_int Tryd.underlying3 e1
  obtain ⟨l0, A0, c0, q0, hl0, hC0, hQ0, -⟩ := open_sliceW k91 z91 QF 140737488351232 Tryd.underlying49 ce91 (fun n cs x h hw => open91 n cs x h hw) e0 hw0
  obtain rfl : a1 = .int .i64 n1 := by simpa using q1
  subst q0
  exact ⟨l0, n1, A0, c0, rfl, fun f hf => (hQ0 f hf).small, fun f hf => (hQ0 f hf).kids, hl0, hC0⟩
end Go.Proofs.YtjhinklijopobaaDoor.Co
