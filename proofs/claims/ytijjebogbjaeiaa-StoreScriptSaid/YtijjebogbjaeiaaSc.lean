import Derived.Test.YtijjebogbjaeiaaSb
namespace Go.Proofs.Ytijjebogbjaeiaa.St
open Go.RowKit Go.Proofs.Ytijjebogbjaeiaa.PStoreScript Go.Proofs.YtijjebogbjaeiaaW.PrintWords Go.Proofs.YtijjebogbjaeiaaW.PrintLast Go.Proofs.YtijjebogbjaeiaaW.PrintMore
set_option linter.unusedVariables false
set_option linter.unusedSimpArgs false

/-- The store's own block. -/
def sob (room used : Int) (rb mb : Nat) : Obj := .cells #[.int .i64 room, .int .i64 used, .pointer (some ⟨rb, 0, none⟩), .map (some mb)] 52 (0, 0)
theorem sob_cells {w : World} {sb : Nat} {room used : Int} {rb mb : Nat} (h : w.heap[sb]? = some (sob room used rb mb)) :
    w.cell? ⟨sb, 0, none⟩ = some (.int .i64 room) ∧ w.cell? ⟨sb, 1, none⟩ = some (.int .i64 used) ∧ w.cell? ⟨sb, 2, none⟩ = some (.pointer (some ⟨rb, 0, none⟩)) ∧ w.cell? ⟨sb, 3, none⟩ = some (.map (some mb)) ∧ w.frozen? ⟨sb, 1, none⟩ = false :=
  ⟨(blk_cell h 0).trans rfl, (blk_cell h 1).trans rfl, (blk_cell h 2).trans rfl, (blk_cell h 3).trans rfl, blk_frozen h 1⟩
theorem sob_ne {w : World} {sb n : Nat} {room used : Int} {rb mb l o : Nat} {k v : ByteArray} (h : w.heap[sb]? = some (sob room used rb mb)) (h' : w.heap[n]? = some (ob k v l o)) : sb ≠ n := blk_ne h h' (by decide)

set_option maxHeartbeats 1000000 in
theorem front_walk (w : World) (sb x rb f mb : Nat) (room used : Int) (kx vx kr vr kf vf : ByteArray) (va vb : Value) (lr lf of' : Nat) (hs : w.heap[sb]? = some (sob room used rb mb)) (hx : w.heap[x]? = some (obv kx vx va vb)) (hr : w.heap[rb]? = some (ob kr vr lr f)) (hf : w.heap[f]? = some (ob kf vf lf of')) :
    Calls Try.prog 17 #[.pointer (some ⟨sb, 0, none⟩), .pointer (some ⟨x, 0, none⟩)] w fun e w' => e = .returned (.tuple #[]) ∧ w' = ((((w.setCell ⟨x, 2, none⟩ (.pointer (some ⟨rb, 0, none⟩))).setCell ⟨x, 3, none⟩ (.pointer (some ⟨f, 0, none⟩))).setCell ⟨f, 2, none⟩ (.pointer (some ⟨x, 0, none⟩))).setCell ⟨rb, 3, none⟩ (.pointer (some ⟨x, 0, none⟩))) := by
  obtain ⟨-, -, s2, -, -⟩ := sob_cells hs
  obtain ⟨-, -, -, r3, -, -⟩ := ob_cells hr
  have x2 : w.cell? ⟨x, 2, none⟩ = some va := (blk_cell hx 2).trans rfl
  have fx2 := blk_frozen hx 2
  have nx : sb ≠ x := blk_ne hs hx (by decide)
  have nf := sob_ne hs hf
  have x1 := blk_put hx 2 (.pointer (some ⟨rb, 0, none⟩)) (cs' := #[.string kx, .string vx, .pointer (some ⟨rb, 0, none⟩), vb]) rfl
  have x3 : (w.setCell ⟨x, 2, none⟩ (.pointer (some ⟨rb, 0, none⟩))).cell? ⟨x, 3, none⟩ = some vb := (blk_cell x1 3).trans rfl
  have fx3 := blk_frozen x1 3
  have f1 := ob_setO (p := x) (q := f) (ob_setL (p := x) (q := rb) hf)
  obtain ⟨-, -, f2, -, ff2, -⟩ := ob_cells f1
  have r1 := ob_setL (p := f) (q := x) (ob_setO (p := x) (q := f) (ob_setL (p := x) (q := rb) hr))
  obtain ⟨-, -, -, rr3, -, fr3⟩ := ob_cells r1
  have s1 := blk_far (blk_far (blk_far hs (p := ⟨x, 2, none⟩) nx (.pointer (some ⟨rb, 0, none⟩))) (p := ⟨x, 3, none⟩) nx (.pointer (some ⟨f, 0, none⟩))) (p := ⟨f, 2, none⟩) nf (.pointer (some ⟨x, 0, none⟩))
  obtain ⟨-, -, ss2, -, -⟩ := sob_cells s1
  have s10 := blk_far hs (p := ⟨x, 2, none⟩) nx (.pointer (some ⟨rb, 0, none⟩))
  obtain ⟨-, -, ss20, -, -⟩ := sob_cells s10
  clear hs hx hr hf nx nf x1 f1 r1 s1 s10
  go_enter Try.func17, Try.ntmps17
  go_wp2
  go_end0
  exact ⟨rfl, rfl⟩
end Go.Proofs.Ytijjebogbjaeiaa.St
