import Derived.Test.YtemdfhaceddmpaaPm
import Derived.Test.YtemdfhaceddmpaaQl
import Derived.Test.YtemdfhaceddmpaaTq
namespace Go.Proofs.Ytemdfhaceddmpaa.Tr
open Go.Shelf Go.RowKit Go.Proofs.Ytemdfhaceddmpaa.PPrinterTells Go.Proofs.YtemdfhaceddmpaaW.PrintWords Go.Proofs.YtemdfhaceddmpaaW.PrintLast Go.Proofs.YtemdfhaceddmpaaW.PrintMore
set_option linter.unusedVariables false
set_option linter.unusedSimpArgs false
def n38 : S27 := ⟨38, ⟨#[]⟩, 0, [], 0, 0⟩
theorem n38_err : treeErr [n38] = 3 := by
  unfold treeErr
  rw [if_neg (by decide), if_neg (by decide), if_neg (by decide)]

set_option maxHeartbeats 2000000 in
set_option maxRecDepth 100000 in
theorem checks_calls (t : List S27) (A0 : Option Addr) (c0 : Nat) (w : World) (hr : Kd.C k27 w A0 t.length t) (hc : t.length ≤ c0) (hl : ∀ x ∈ t, QN x) :
    Calls Try.prog 3 #[.slice A0 t.length c0] w fun e w' => e = .returned (.bool true) ∧ Below w.heap.size w w' := by
  have htm : (t.length : Int) ≤ 9223372036854775807 := by have := hr.2.1; omega
  have HB0 := Go.Lib.hid (below_alloc (Below.refl w.heap.size w) (.cells #[.int .i64 38, .string ⟨#[]⟩, .int .i64 0, .slice none 0 0, .int .i64 0, .int .i64 0] 27))
  have H1 := Go.Lib.hid (check_calls [n38] (some ⟨w.heap.size, 0, none⟩) 1 (w.alloc (.cells #[.int .i64 38, .string ⟨#[]⟩, .int .i64 0, .slice none 0 0, .int .i64 0, .int .i64 0] 27)) (lit_N (blk_new _ _) rfl rfl) (Nat.le_refl _) (by decide))
  rw [n38_err] at H1
  have HCH := fun Wx (hbx : Below w.heap.size w Wx) => Go.Lib.hid (check_calls t A0 c0 Wx (Kd.C_below hr hbx) hc (fun x hx => (hl x hx).1))
  have HTR := fun Wx (hbx : Below w.heap.size w Wx) => Go.Lib.hid (tree_calls t A0 c0 Wx (Kd.C_below hr hbx) hc (fun x hx => (hl x hx).1))
  generalize treeErr t = er at HCH HTR
  clear hr hc hl
  go_enter Try.func3, Try.ntmps3
  go_wp2_with fail
  refine H1.out.mono ?_
  rintro e w1 ⟨rfl, hb1⟩
  have HB1 := Go.Lib.hid (HB0.out.trans (hb1.mono HB0.out.size))
  clear hb1 H1 HB0
  by_cases h300 : 300 < t.length
  · have d1 : decide (300 < t.length) = true := decide_eq_true h300
    have d2 : decide ((300 : Int) < (t.length : Int)) = true := decide_eq_true (by omega)
    clear h300 HCH HTR
    go_wp2_with fail
    go_ret
    exact ⟨rfl, HB1.out⟩
  have d1 : decide (300 < t.length) = false := decide_eq_false h300
  have d2 : decide ((300 : Int) < (t.length : Int)) = false := decide_eq_false (by omega)
  have HC1 := HCH w1 HB1.out
  clear h300 HCH
  go_wp2_with fail
  refine HC1.out.mono ?_
  rintro e w2 ⟨rfl, hb2⟩
  have HB2 := Go.Lib.hid (below_step HB1.out hb2)
  have HT2 := HTR w2 HB2.out
  clear hb2 HC1 HTR
  go_wp2_with fail
  refine HT2.out.mono ?_
  rintro e w3 ⟨rfl, hb3⟩
  have HB3 := Go.Lib.hid (below_step HB2.out hb3)
  clear hb3 HT2
  go_wp2_with fail
  go_ret
  exact ⟨by simp, HB3.out⟩
end Go.Proofs.Ytemdfhaceddmpaa.Tr
