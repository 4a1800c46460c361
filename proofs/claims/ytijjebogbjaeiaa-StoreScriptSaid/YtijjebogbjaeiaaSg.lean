import Derived.Test.YtijjebogbjaeiaaSf
namespace Go.Proofs.Ytijjebogbjaeiaa.St
open Go.RowKit Go.Proofs.Ytijjebogbjaeiaa.PStoreScript Go.Proofs.YtijjebogbjaeiaaW.PrintWords Go.Proofs.YtijjebogbjaeiaaW.PrintLast Go.Proofs.YtijjebogbjaeiaaW.PrintMore
set_option linter.unusedVariables false
set_option linter.unusedSimpArgs false

set_option maxHeartbeats 1000000 in
theorem new_bad (w : World) (room : Int) (h : room < 0 ∨ 16777216 < room) :
    Calls Try.prog 4 #[.int .i64 room] w fun e w' => e = .returned (.tuple #[.pointer none, .int .i64 4]) ∧ w' = w := by
  rcases h with h | h
  · have h1 : decide (room < 0) = true := decide_eq_true h
    clear h
    go_enter Try.func4, Try.ntmps4
    go_wp2
    go_ret2
    exact ⟨rfl, rfl⟩
  · have h1 : decide (room < 0) = false := decide_eq_false (by omega)
    have h2 : decide (16777216 < room) = true := decide_eq_true h
    clear h
    go_enter Try.func4, Try.ntmps4
    go_wp2
    go_ret2
    exact ⟨rfl, rfl⟩

set_option maxHeartbeats 1000000 in
theorem new_ok (w : World) (room : Int) (h0 : 0 ≤ room) (h1 : room ≤ 16777216) :
    Calls Try.prog 4 #[.int .i64 room] w fun e w' => ∃ sb rb mb, e = .returned (.tuple #[.pointer (some ⟨sb, 0, none⟩), .int .i64 0]) ∧ Sto w' sb rb mb room [] ∧ Below w.heap.size w w' ∧ (∀ k, Own sb rb mb [] k → w.heap.size ≤ k) := by
  have k1 : decide (room < 0) = false := decide_eq_false (by omega)
  have k2 : decide (16777216 < room) = false := decide_eq_false (by omega)
  have hm : ∀ W : World, (Instr.makeMap 50 none).run Try.prog W = .ok (.map (some W.heap.size)) (W.alloc (.map #[] 0)) := fun W => run_makeMap 50 W
  go_enter Try.func4, Try.ntmps4
  go_wp2
  go_ret2
  have e1 : ((w.alloc (ob ⟨#[]⟩ ⟨#[]⟩ w.heap.size w.heap.size)).alloc (.map #[] 0)).heap.size = w.heap.size + 1 + 1 := by simp
  have e2 : (w.alloc (ob ⟨#[]⟩ ⟨#[]⟩ w.heap.size w.heap.size)).heap.size = w.heap.size + 1 := by simp
  refine ⟨w.heap.size + 1 + 1, w.heap.size, w.heap.size + 1, rfl, ⟨?_, ⟨fun _ => w.heap.size, fun _ => w.heap.size, ⟨rfl, rfl⟩, by simp, ?_, by simp⟩, ?_, by simp, by simp, by simp [tot]; exact h0, h0, h1⟩, ?_, ?_⟩
  · have := blk_new ((w.alloc (ob ⟨#[]⟩ ⟨#[]⟩ w.heap.size w.heap.size)).alloc (.map #[] 0)) (sob room 0 w.heap.size (w.heap.size + 1))
    rw [e1] at this
    exact this
  · exact blk_alloc (blk_alloc (blk_new w (ob ⟨#[]⟩ ⟨#[]⟩ w.heap.size w.heap.size)) _) _
  · have := Mp.made (w.alloc (ob ⟨#[]⟩ ⟨#[]⟩ w.heap.size w.heap.size))
    rw [e2] at this
    exact this.keep (Below.heap_alloc _ _ _ (by simp))
  · exact below_alloc (below_alloc (below_alloc (Below.refl _ _) _) _) _
  · rintro k (rfl | rfl | hk)
    · omega
    · omega
    · simp at hk; omega
end Go.Proofs.Ytijjebogbjaeiaa.St
