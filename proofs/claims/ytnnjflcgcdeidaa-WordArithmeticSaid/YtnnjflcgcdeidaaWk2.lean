/- The two laws of words, in the form that a row wants. -/
import Derived.Test.YtnnjflcgcdeidaaWk
import Derived.Below
namespace Go.Proofs.Ytnnjflcgcdeidaa.Wk
open Go.RowKit
theorem packed_walk (a b : Int) (w : World) (_ : (Lit.int .i64 a).wf = true) (h : (Lit.int .i64 b).wf = true) : Calls Try.prog 4 #[.int .i64 a, .int .i64 b] w fun e w' => e = .returned (.bool true) ∧ Below w.heap.size w w' :=
  (packed_law a b w (Wd.wf_range b h)).mono fun _ _ ⟨he, hw⟩ => ⟨he, hw ▸ Below.refl _ _⟩
theorem arith_walk (a b : Int) (w : World) (_ : (Lit.int .i64 a).wf = true) (_ : (Lit.int .i64 b).wf = true) : Calls Try.prog 6 #[.int .i64 a, .int .i64 b] w fun e w' => e = .returned (.bool true) ∧ Below w.heap.size w w' :=
  (arith_law a b w).mono fun _ _ ⟨he, hw⟩ => ⟨he, hw ▸ Below.refl _ _⟩
end Go.Proofs.Ytnnjflcgcdeidaa.Wk
