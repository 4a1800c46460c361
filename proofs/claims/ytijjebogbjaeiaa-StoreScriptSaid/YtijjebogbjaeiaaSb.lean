import Derived.Test.YtijjebogbjaeiaaSa
namespace Go.Proofs.Ytijjebogbjaeiaa.St
open Go.RowKit Go.Proofs.Ytijjebogbjaeiaa.PStoreScript Go.Proofs.YtijjebogbjaeiaaW.PrintWords Go.Proofs.YtijjebogbjaeiaaW.PrintLast Go.Proofs.YtijjebogbjaeiaaW.PrintMore
set_option linter.unusedVariables false
set_option linter.unusedSimpArgs false

theorem ob_cells {w : World} {n : Nat} {k v : ByteArray} {l o : Nat} (h : w.heap[n]? = some (ob k v l o)) :
    w.cell? ⟨n, 0, none⟩ = some (.string k) ∧ w.cell? ⟨n, 1, none⟩ = some (.string v) ∧ w.cell? ⟨n, 2, none⟩ = some (.pointer (some ⟨l, 0, none⟩)) ∧ w.cell? ⟨n, 3, none⟩ = some (.pointer (some ⟨o, 0, none⟩)) ∧ w.frozen? ⟨n, 2, none⟩ = false ∧ w.frozen? ⟨n, 3, none⟩ = false :=
  ⟨(blk_cell h 0).trans rfl, (blk_cell h 1).trans rfl, (blk_cell h 2).trans rfl, (blk_cell h 3).trans rfl, blk_frozen h 2, blk_frozen h 3⟩

set_option maxHeartbeats 1000000 in
theorem out_walk (w : World) (b l o : Nat) (kb vb kl vl ko vo : ByteArray) (ll ol lo oo : Nat) (hb : w.heap[b]? = some (ob kb vb l o)) (hl : w.heap[l]? = some (ob kl vl ll ol)) (ho : w.heap[o]? = some (ob ko vo lo oo)) :
    Calls Try.prog 16 #[.pointer (some ⟨b, 0, none⟩)] w fun e w' => e = .returned (.tuple #[]) ∧ ∃ n, w' = ((w.drewN n).setCell ⟨l, 3, none⟩ (.pointer (some ⟨o, 0, none⟩))).setCell ⟨o, 2, none⟩ (.pointer (some ⟨l, 0, none⟩)) := by
  have hl1 := ob_cells hl
  obtain ⟨-, -, c2, c3, -, -⟩ := ob_cells hb
  have HL := Go.Lib.hid hl
  have HO := Go.Lib.hid ho
  clear hb hl1 ho hl
  go_enter Try.func16, Try.ntmps16
  go_wp2
  go_quiet (fail)
  obtain ⟨w2, hw2⟩ : ∃ w2, w2 = w.drewN nq := ⟨_, rfl⟩
  rw [← hw2]
  have hl2 := blk_drewN HL.out nq
  have ho2 := blk_drewN HO.out nq
  rw [← hw2] at hl2 ho2
  obtain ⟨-, -, -, k3, -, f3⟩ := ob_cells hl2
  have ho3 := ob_setO (p := l) (q := o) ho2
  obtain ⟨-, -, k2, -, f2, -⟩ := ob_cells ho3
  clear hl2 ho2 ho3 c2 c3
  have HW := Go.Lib.hid hw2
  clear hw2
  go_wp2
  go_end0
  exact ⟨rfl, nq, by rw [← HW.out]⟩
end Go.Proofs.Ytijjebogbjaeiaa.St
