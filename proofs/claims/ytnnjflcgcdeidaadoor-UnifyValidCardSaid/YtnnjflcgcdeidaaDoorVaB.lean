import Derived.Test.YtnnjflcgcdeidaaDoorVaZ
import Derived.Test.YtnnjflcgcdeidaaDoorVaO
import Derived.Test.YtnnjflcgcdeidaaDoorVaK0
import Derived.Test.YtnnjflcgcdeidaaDoorVaK1
import Derived.Test.YtnnjflcgcdeidaaDoorVaK2
import Derived.Test.YtnnjflcgcdeidaaDoorVaK3
import Derived.Test.YtnnjflcgcdeidaaDoorVaK4
import Derived.Test.YtnnjflcgcdeidaaDoorVaK5
namespace Go.Proofs.YtnnjflcgcdeidaaDoor.Va
open Go.RowKit Go.Proofs.YtnnjflcgcdeidaaDoor.PUnifyValid Go.Proofs.YtnnjflcgcdeidaaDoorW.PrintWords Go.Proofs.YtnnjflcgcdeidaaDoorW.PrintLast Go.Proofs.YtnnjflcgcdeidaaDoorW.PrintMore
set_option linter.unusedVariables false

theorem chk_step (G : S24 → Bool → Int → Int → Int × Int) (K V : Int) (N : ByteArray) (L : List S24) (hG : ∀ y ∈ L, Chk y (G y) ∧ Good (G y)) : Chk ⟨K, N, V, L⟩ (step G K V N L) := by
  intro w0 w gb A c row d l hT hC hb hlt hg h0 h1 hd0 hd1
  by_cases hK : K < 0 ∨ 5 < K
  · exact chk_out G K hK V N L hG w0 w gb A c row d l hT hC hb hlt hg h0 h1 hd0 hd1
  · obtain rfl | rfl | rfl | rfl | rfl | rfl : K = 0 ∨ K = 1 ∨ K = 2 ∨ K = 3 ∨ K = 4 ∨ K = 5 := by omega
    · exact chk_k0 G V N L hG w0 w gb A c row d l hT hC hb hlt hg h0 h1 hd0 hd1
    · exact chk_k1 G V N L hG w0 w gb A c row d l hT hC hb hlt hg h0 h1 hd0 hd1
    · exact chk_k2 G V N L hG w0 w gb A c row d l hT hC hb hlt hg h0 h1 hd0 hd1
    · exact chk_k3 G V N L hG w0 w gb A c row d l hT hC hb hlt hg h0 h1 hd0 hd1
    · exact chk_k4 G V N L hG w0 w gb A c row d l hT hC hb hlt hg h0 h1 hd0 hd1
    · exact chk_k5 G V N L hG w0 w gb A c row d l hT hC hb hlt hg h0 h1 hd0 hd1

theorem ref_step (G : S24 → Bool → Int → Int → Int × Int) (K V : Int) (N : ByteArray) (L : List S24) (hG : ∀ y ∈ L, Ref y (G y) ∧ Good (G y)) : Ref ⟨K, N, V, L⟩ (step G K V N L) := by
  intro w A c row d s hC h0 h1 hd0 hd1
  by_cases hK : K < 0 ∨ 5 < K
  · exact ref_out G K hK V N L hG w A c row d s hC h0 h1 hd0 hd1
  · obtain rfl | rfl | rfl | rfl | rfl | rfl : K = 0 ∨ K = 1 ∨ K = 2 ∨ K = 3 ∨ K = 4 ∨ K = 5 := by omega
    · exact ref_k0 G V N L hG w A c row d s hC h0 h1 hd0 hd1
    · exact ref_k1 G V N L hG w A c row d s hC h0 h1 hd0 hd1
    · exact ref_k2 G V N L hG w A c row d s hC h0 h1 hd0 hd1
    · exact ref_k3 G V N L hG w A c row d s hC h0 h1 hd0 hd1
    · exact ref_k4 G V N L hG w A c row d s hC h0 h1 hd0 hd1
    · exact ref_k5 G V N L hG w A c row d s hC h0 h1 hd0 hd1

/-- The functions agree. -/
def Both (x : S24) (g : Bool → Int → Int → Int × Int) : Prop := Good g ∧ Chk x g ∧ Ref x g

theorem both_step (K V : Int) (N : ByteArray) (L : List S24) (h : ∀ y ∈ L, ∃ g, Both y g) : ∃ g, Both ⟨K, N, V, L⟩ g := by
  have hc : ∀ y : S24, ∃ g, y ∈ L → Both y g := fun y => by
    by_cases hy : y ∈ L
    · obtain ⟨g, hg⟩ := h y hy
      exact ⟨g, fun _ => hg⟩
    · exact ⟨fun _ _ _ => (0, 0), fun hn => absurd hn hy⟩
  obtain ⟨G, hG⟩ := Classical.axiomOfChoice hc
  exact ⟨step G K V N L, step_good G K V N L (fun y hy => (hG y hy).1), chk_step G K V N L (fun y hy => ⟨(hG y hy).2.1, (hG y hy).1⟩), ref_step G K V N L (fun y hy => ⟨(hG y hy).2.2, (hG y hy).1⟩)⟩

theorem both (x : S24) : ∃ g, Both x g := by
  match x with
  | ⟨K, N, V, L⟩ => exact both_step K V N L (fun y hy => both y)
termination_by SizeOf.sizeOf x
decreasing_by
  have := List.sizeOf_lt_of_mem hy
  simp
  omega

theorem rec_chk : ∃ g3, Chk ⟨3, ⟨#[]⟩, 0, []⟩ g3 ∧ (g3 false 1 4096).2 = 3 :=
  ⟨step (fun _ _ _ _ => (0, 0)) 3 0 ⟨#[]⟩ [], chk_step _ _ _ _ _ (fun y hy => by cases hy), by decide⟩

/-- The law, in a world that holds the table and the argument. -/
theorem law_row {w : World} {x : S24} {A : Option Addr} {c : Nat} (hT : Tab w) (hC : k24.C w A x.f3.length x.f3) :
    Calls Tryd.prog 3 #[.agg #[.int .i64 x.f0, .string x.f1, .int .i64 x.f2, .slice A x.f3.length c]] w fun e w' => e = .returned (.bool true) ∧ Below w.heap.size w w' := by
  obtain ⟨g, hg⟩ := both x
  obtain ⟨g3, h3, h33⟩ := rec_chk
  exact law_calls hg.2.1 hg.2.2 h3 h33 hT hC
end Go.Proofs.YtnnjflcgcdeidaaDoor.Va
