import Derived.Test.YtemdfhaceddmpaaPPrinterTellsx0
namespace Go.Proofs.Ytemdfhaceddmpaa.Tr
open Go.RowKit Go.Proofs.Ytemdfhaceddmpaa.PPrinterTells Go.Proofs.YtemdfhaceddmpaaW.PrintWords Go.Proofs.YtemdfhaceddmpaaW.PrintLast Go.Proofs.YtemdfhaceddmpaaW.PrintMore
theorem lit_N {W : World} {b : Nat} {x : S27} {cs : Array Value} (h : W.heap[b]? = some (.cells cs 27 (0, 0))) (hcs : cs = #[.int .i64 x.f0, .string x.f1, .int .i64 x.f2, .slice none 0 0, .int .i64 x.f4, .int .i64 x.f5]) (hx : x.f3 = []) : Kd.C k27 W (some ⟨b, 0, none⟩) [x].length [x] := by
  subst hcs
  refine ⟨rfl, by simp, fun _ => ⟨_, rfl, fun j p hj => ?_⟩⟩
  have hj0 : j = 0 := by have := (List.getElem?_eq_some_iff.1 hj).1; simp at this; omega
  subst hj0
  obtain rfl : x = p := by simpa using hj
  refine ⟨[.int .i64 x.f0, .string x.f1, .int .i64 x.f2, .slice none x.f3.length 0, .int .i64 x.f4, .int .i64 x.f5], rfl, k27_mk W x (by rw [hx]; exact Nat.le_refl _) (by rw [hx]; exact Kd.C_nil _ W), fun i u hu => ?_⟩
  rw [add_plain, blk_cell h]
  rw [hx] at hu
  simpa using hu
end Go.Proofs.Ytemdfhaceddmpaa.Tr
