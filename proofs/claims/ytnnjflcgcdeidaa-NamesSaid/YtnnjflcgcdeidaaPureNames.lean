/- The function Names of package provenancelaw1 returns true. No condition. -/
import Derived.Test.YtnnjflcgcdeidaaPNamesx1
import Derived.Test.YtnnjflcgcdeidaaWd
namespace Go.Proofs.Ytnnjflcgcdeidaa.Pure
open Go.RowKit Go.Proofs.Ytnnjflcgcdeidaa.PNames Go.Proofs.YtnnjflcgcdeidaaW.PrintWords Go.Proofs.YtnnjflcgcdeidaaW.PrintLast

theorem Names : provenancelaw1_Names.Pure := by
  unfold provenancelaw1_Names.Pure provenancelaw1_Names.f word_Wrap.f
  rw [Wd.wrap_eq]
  simp [Wd.wd]

end Go.Proofs.Ytnnjflcgcdeidaa.Pure
