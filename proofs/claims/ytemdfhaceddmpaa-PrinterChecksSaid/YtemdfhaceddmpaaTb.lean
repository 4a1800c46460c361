import Derived.Test.YtemdfhaceddmpaaTa
import Derived.BigQuiet
namespace Go.Proofs.Ytemdfhaceddmpaa.Tr
open Go.Shelf Go.RowKit Go.Proofs.Ytemdfhaceddmpaa.PPrinterTells Go.Proofs.YtemdfhaceddmpaaW.PrintWords Go.Proofs.YtemdfhaceddmpaaW.PrintLast Go.Proofs.YtemdfhaceddmpaaW.PrintMore
set_option linter.unusedVariables false
set_option linter.unusedSimpArgs false

/-- The kinds that a letter of a shape stands for. -/
def kinds (c : Int) : List Int :=
  if c = 68 then [1, 2, 4, 5, 7, 9, 10, 12, 13] else
  if c = 84 then [14, 15, 16, 17] else
  if c = 69 then [20, 21, 22, 23, 24, 25, 26, 27, 29, 30, 31, 32] else
  if c = 80 then [35, 36, 37, 38] else
  if c = 86 then [35, 36] else
  if c = 98 then [13, 12] else
  if c = 104 then [33, 34] else
  if c = 88 then [14, 15, 16, 17, 20, 21, 22, 23, 24, 25, 26, 27, 29, 30, 31, 32] else
  if c = 110 then [3] else
  if c = 118 then [14] else
  if c = 99 then [6] else
  if c = 111 then [8] else
  if c = 115 then [12] else
  if c = 113 then [11] else
  if c = 100 then [13] else
  if c = 114 then [18] else
  if c = 102 then [19] else
  if c = 97 then [28] else
  []

set_option maxHeartbeats 1000000 in
theorem isOf_68 (k : Int) (w : World) : Calls Try.prog 24 #[.int .u8 68, .int .i64 k] w fun e w' => e = .returned (.bool (decide (k ∈ ([1, 2, 4, 5, 7, 9, 10, 12, 13] : List Int)))) ∧ Below w.heap.size w w' := by
  have h1 := blk_new (w.alloc (.cells #[.int .i64 k] 3)) (.cells #[.int .i64 1, .int .i64 2, .int .i64 4, .int .i64 5, .int .i64 7, .int .i64 9, .int .i64 10, .int .i64 12, .int .i64 13] 3)
  have e1 : (w.alloc (.cells #[.int .i64 k] 3)).heap.size = w.heap.size + 1 := by simp
  rw [e1] at h1
  have H1 := Go.Lib.hid (lit_I (l := [1, 2, 4, 5, 7, 9, 10, 12, 13]) h1 rfl (by decide))
  have H2 := Go.Lib.hid ((blk_cell (blk_alloc (blk_new w (.cells #[.int .i64 k] 3)) (.cells #[.int .i64 1, .int .i64 2, .int .i64 4, .int .i64 5, .int .i64 7, .int .i64 9, .int .i64 10, .int .i64 12, .int .i64 13] 3)) 0).trans rfl)
  have HB := Go.Lib.hid (below_alloc (below_alloc (Below.refl w.heap.size w) (.cells #[.int .i64 k] 3)) (.cells #[.int .i64 1, .int .i64 2, .int .i64 4, .int .i64 5, .int .i64 7, .int .i64 9, .int .i64 10, .int .i64 12, .int .i64 13] 3))
  have HO := Go.Lib.hid (one_calls [1, 2, 4, 5, 7, 9, 10, 12, 13] _ 9 w.heap.size k _ H1.out (by decide) H2.out)
  clear h1 e1
  generalize decide (k ∈ ([1, 2, 4, 5, 7, 9, 10, 12, 13] : List Int)) = b at *
  go_enter Try.func24, Try.ntmps24
  go_wp2_with fail
  refine HO.out.mono ?_
  rintro e w1 ⟨rfl, hw1⟩
  have HW1 := Go.Lib.hid hw1
  clear hw1
  go_wp2_with fail
  go_ret
  exact ⟨rfl, by rw [HW1.out]; exact HB.out⟩

set_option maxHeartbeats 1000000 in
theorem isOf_84 (k : Int) (w : World) : Calls Try.prog 24 #[.int .u8 84, .int .i64 k] w fun e w' => e = .returned (.bool (decide (k ∈ ([14, 15, 16, 17] : List Int)))) ∧ Below w.heap.size w w' := by
  have h1 := blk_new (w.alloc (.cells #[.int .i64 k] 3)) (.cells #[.int .i64 14, .int .i64 15, .int .i64 16, .int .i64 17] 3)
  have e1 : (w.alloc (.cells #[.int .i64 k] 3)).heap.size = w.heap.size + 1 := by simp
  rw [e1] at h1
  have H1 := Go.Lib.hid (lit_I (l := [14, 15, 16, 17]) h1 rfl (by decide))
  have H2 := Go.Lib.hid ((blk_cell (blk_alloc (blk_new w (.cells #[.int .i64 k] 3)) (.cells #[.int .i64 14, .int .i64 15, .int .i64 16, .int .i64 17] 3)) 0).trans rfl)
  have HB := Go.Lib.hid (below_alloc (below_alloc (Below.refl w.heap.size w) (.cells #[.int .i64 k] 3)) (.cells #[.int .i64 14, .int .i64 15, .int .i64 16, .int .i64 17] 3))
  have HO := Go.Lib.hid (one_calls [14, 15, 16, 17] _ 4 w.heap.size k _ H1.out (by decide) H2.out)
  clear h1 e1
  generalize decide (k ∈ ([14, 15, 16, 17] : List Int)) = b at *
  go_enter Try.func24, Try.ntmps24
  go_wp2_with fail
  refine HO.out.mono ?_
  rintro e w1 ⟨rfl, hw1⟩
  have HW1 := Go.Lib.hid hw1
  clear hw1
  go_wp2_with fail
  go_ret
  exact ⟨rfl, by rw [HW1.out]; exact HB.out⟩

set_option maxHeartbeats 1000000 in
theorem isOf_69 (k : Int) (w : World) : Calls Try.prog 24 #[.int .u8 69, .int .i64 k] w fun e w' => e = .returned (.bool (decide (k ∈ ([20, 21, 22, 23, 24, 25, 26, 27, 29, 30, 31, 32] : List Int)))) ∧ Below w.heap.size w w' := by
  have h1 := blk_new (w.alloc (.cells #[.int .i64 k] 3)) (.cells #[.int .i64 20, .int .i64 21, .int .i64 22, .int .i64 23, .int .i64 24, .int .i64 25, .int .i64 26, .int .i64 27, .int .i64 29, .int .i64 30, .int .i64 31, .int .i64 32] 3)
  have e1 : (w.alloc (.cells #[.int .i64 k] 3)).heap.size = w.heap.size + 1 := by simp
  rw [e1] at h1
  have H1 := Go.Lib.hid (lit_I (l := [20, 21, 22, 23, 24, 25, 26, 27, 29, 30, 31, 32]) h1 rfl (by decide))
  have H2 := Go.Lib.hid ((blk_cell (blk_alloc (blk_new w (.cells #[.int .i64 k] 3)) (.cells #[.int .i64 20, .int .i64 21, .int .i64 22, .int .i64 23, .int .i64 24, .int .i64 25, .int .i64 26, .int .i64 27, .int .i64 29, .int .i64 30, .int .i64 31, .int .i64 32] 3)) 0).trans rfl)
  have HB := Go.Lib.hid (below_alloc (below_alloc (Below.refl w.heap.size w) (.cells #[.int .i64 k] 3)) (.cells #[.int .i64 20, .int .i64 21, .int .i64 22, .int .i64 23, .int .i64 24, .int .i64 25, .int .i64 26, .int .i64 27, .int .i64 29, .int .i64 30, .int .i64 31, .int .i64 32] 3))
  have HO := Go.Lib.hid (one_calls [20, 21, 22, 23, 24, 25, 26, 27, 29, 30, 31, 32] _ 12 w.heap.size k _ H1.out (by decide) H2.out)
  clear h1 e1
  generalize decide (k ∈ ([20, 21, 22, 23, 24, 25, 26, 27, 29, 30, 31, 32] : List Int)) = b at *
  go_enter Try.func24, Try.ntmps24
  go_wp2_with fail
  refine HO.out.mono ?_
  rintro e w1 ⟨rfl, hw1⟩
  have HW1 := Go.Lib.hid hw1
  clear hw1
  go_wp2_with fail
  go_ret
  exact ⟨rfl, by rw [HW1.out]; exact HB.out⟩

set_option maxHeartbeats 1000000 in
theorem isOf_80 (k : Int) (w : World) : Calls Try.prog 24 #[.int .u8 80, .int .i64 k] w fun e w' => e = .returned (.bool (decide (k ∈ ([35, 36, 37, 38] : List Int)))) ∧ Below w.heap.size w w' := by
  have h1 := blk_new (w.alloc (.cells #[.int .i64 k] 3)) (.cells #[.int .i64 35, .int .i64 36, .int .i64 37, .int .i64 38] 3)
  have e1 : (w.alloc (.cells #[.int .i64 k] 3)).heap.size = w.heap.size + 1 := by simp
  rw [e1] at h1
  have H1 := Go.Lib.hid (lit_I (l := [35, 36, 37, 38]) h1 rfl (by decide))
  have H2 := Go.Lib.hid ((blk_cell (blk_alloc (blk_new w (.cells #[.int .i64 k] 3)) (.cells #[.int .i64 35, .int .i64 36, .int .i64 37, .int .i64 38] 3)) 0).trans rfl)
  have HB := Go.Lib.hid (below_alloc (below_alloc (Below.refl w.heap.size w) (.cells #[.int .i64 k] 3)) (.cells #[.int .i64 35, .int .i64 36, .int .i64 37, .int .i64 38] 3))
  have HO := Go.Lib.hid (one_calls [35, 36, 37, 38] _ 4 w.heap.size k _ H1.out (by decide) H2.out)
  clear h1 e1
  generalize decide (k ∈ ([35, 36, 37, 38] : List Int)) = b at *
  go_enter Try.func24, Try.ntmps24
  go_wp2_with fail
  refine HO.out.mono ?_
  rintro e w1 ⟨rfl, hw1⟩
  have HW1 := Go.Lib.hid hw1
  clear hw1
  go_wp2_with fail
  go_ret
  exact ⟨rfl, by rw [HW1.out]; exact HB.out⟩

set_option maxHeartbeats 1000000 in
theorem isOf_86 (k : Int) (w : World) : Calls Try.prog 24 #[.int .u8 86, .int .i64 k] w fun e w' => e = .returned (.bool (decide (k ∈ ([35, 36] : List Int)))) ∧ Below w.heap.size w w' := by
  have h1 := blk_new (w.alloc (.cells #[.int .i64 k] 3)) (.cells #[.int .i64 35, .int .i64 36] 3)
  have e1 : (w.alloc (.cells #[.int .i64 k] 3)).heap.size = w.heap.size + 1 := by simp
  rw [e1] at h1
  have H1 := Go.Lib.hid (lit_I (l := [35, 36]) h1 rfl (by decide))
  have H2 := Go.Lib.hid ((blk_cell (blk_alloc (blk_new w (.cells #[.int .i64 k] 3)) (.cells #[.int .i64 35, .int .i64 36] 3)) 0).trans rfl)
  have HB := Go.Lib.hid (below_alloc (below_alloc (Below.refl w.heap.size w) (.cells #[.int .i64 k] 3)) (.cells #[.int .i64 35, .int .i64 36] 3))
  have HO := Go.Lib.hid (one_calls [35, 36] _ 2 w.heap.size k _ H1.out (by decide) H2.out)
  clear h1 e1
  generalize decide (k ∈ ([35, 36] : List Int)) = b at *
  go_enter Try.func24, Try.ntmps24
  go_wp2_with fail
  refine HO.out.mono ?_
  rintro e w1 ⟨rfl, hw1⟩
  have HW1 := Go.Lib.hid hw1
  clear hw1
  go_wp2_with fail
  go_ret
  exact ⟨rfl, by rw [HW1.out]; exact HB.out⟩

set_option maxHeartbeats 1000000 in
theorem isOf_98 (k : Int) (w : World) : Calls Try.prog 24 #[.int .u8 98, .int .i64 k] w fun e w' => e = .returned (.bool (decide (k ∈ ([13, 12] : List Int)))) ∧ Below w.heap.size w w' := by
  have h1 := blk_new (w.alloc (.cells #[.int .i64 k] 3)) (.cells #[.int .i64 13, .int .i64 12] 3)
  have e1 : (w.alloc (.cells #[.int .i64 k] 3)).heap.size = w.heap.size + 1 := by simp
  rw [e1] at h1
  have H1 := Go.Lib.hid (lit_I (l := [13, 12]) h1 rfl (by decide))
  have H2 := Go.Lib.hid ((blk_cell (blk_alloc (blk_new w (.cells #[.int .i64 k] 3)) (.cells #[.int .i64 13, .int .i64 12] 3)) 0).trans rfl)
  have HB := Go.Lib.hid (below_alloc (below_alloc (Below.refl w.heap.size w) (.cells #[.int .i64 k] 3)) (.cells #[.int .i64 13, .int .i64 12] 3))
  have HO := Go.Lib.hid (one_calls [13, 12] _ 2 w.heap.size k _ H1.out (by decide) H2.out)
  clear h1 e1
  generalize decide (k ∈ ([13, 12] : List Int)) = b at *
  go_enter Try.func24, Try.ntmps24
  go_wp2_with fail
  refine HO.out.mono ?_
  rintro e w1 ⟨rfl, hw1⟩
  have HW1 := Go.Lib.hid hw1
  clear hw1
  go_wp2_with fail
  go_ret
  exact ⟨rfl, by rw [HW1.out]; exact HB.out⟩

set_option maxHeartbeats 1000000 in
theorem isOf_104 (k : Int) (w : World) : Calls Try.prog 24 #[.int .u8 104, .int .i64 k] w fun e w' => e = .returned (.bool (decide (k ∈ ([33, 34] : List Int)))) ∧ Below w.heap.size w w' := by
  have h1 := blk_new (w.alloc (.cells #[.int .i64 k] 3)) (.cells #[.int .i64 33, .int .i64 34] 3)
  have e1 : (w.alloc (.cells #[.int .i64 k] 3)).heap.size = w.heap.size + 1 := by simp
  rw [e1] at h1
  have H1 := Go.Lib.hid (lit_I (l := [33, 34]) h1 rfl (by decide))
  have H2 := Go.Lib.hid ((blk_cell (blk_alloc (blk_new w (.cells #[.int .i64 k] 3)) (.cells #[.int .i64 33, .int .i64 34] 3)) 0).trans rfl)
  have HB := Go.Lib.hid (below_alloc (below_alloc (Below.refl w.heap.size w) (.cells #[.int .i64 k] 3)) (.cells #[.int .i64 33, .int .i64 34] 3))
  have HO := Go.Lib.hid (one_calls [33, 34] _ 2 w.heap.size k _ H1.out (by decide) H2.out)
  clear h1 e1
  generalize decide (k ∈ ([33, 34] : List Int)) = b at *
  go_enter Try.func24, Try.ntmps24
  go_wp2_with fail
  refine HO.out.mono ?_
  rintro e w1 ⟨rfl, hw1⟩
  have HW1 := Go.Lib.hid hw1
  clear hw1
  go_wp2_with fail
  go_ret
  exact ⟨rfl, by rw [HW1.out]; exact HB.out⟩

set_option maxHeartbeats 1000000 in
theorem isOf_110 (k : Int) (w : World) : Calls Try.prog 24 #[.int .u8 110, .int .i64 k] w fun e w' => e = .returned (.bool (decide (k ∈ ([3] : List Int)))) ∧ Below w.heap.size w w' := by
  have h1 := blk_new (w.alloc (.cells #[.int .i64 k] 3)) (.cells #[.int .i64 3, .int .i64 14, .int .i64 6, .int .i64 8, .int .i64 12, .int .i64 11, .int .i64 13, .int .i64 18, .int .i64 19, .int .i64 28] 3)
  have e1 : (w.alloc (.cells #[.int .i64 k] 3)).heap.size = w.heap.size + 1 := by simp
  rw [e1] at h1
  have x1 : ((w.alloc (.cells #[.int .i64 k] 3)).alloc (.cells #[.int .i64 3, .int .i64 14, .int .i64 6, .int .i64 8, .int .i64 12, .int .i64 11, .int .i64 13, .int .i64 18, .int .i64 19, .int .i64 28] 3)).cell? ⟨w.heap.size + 1, 0, none⟩ = some (.int .i64 3) := (blk_cell h1 0).trans rfl
  have x2 : ((w.alloc (.cells #[.int .i64 k] 3)).alloc (.cells #[.int .i64 3, .int .i64 14, .int .i64 6, .int .i64 8, .int .i64 12, .int .i64 11, .int .i64 13, .int .i64 18, .int .i64 19, .int .i64 28] 3)).cell? ⟨w.heap.size, 0, none⟩ = some (.int .i64 k) := (blk_cell (blk_alloc (blk_new w (.cells #[.int .i64 k] 3)) (.cells #[.int .i64 3, .int .i64 14, .int .i64 6, .int .i64 8, .int .i64 12, .int .i64 11, .int .i64 13, .int .i64 18, .int .i64 19, .int .i64 28] 3)) 0).trans rfl
  have HB := Go.Lib.hid (below_alloc (below_alloc (Below.refl w.heap.size w) (.cells #[.int .i64 k] 3)) (.cells #[.int .i64 3, .int .i64 14, .int .i64 6, .int .i64 8, .int .i64 12, .int .i64 11, .int .i64 13, .int .i64 18, .int .i64 19, .int .i64 28] 3))
  have HI := Go.Lib.hid (show ∀ W : World, Calls Try.prog 34 #[.string ⟨#[110, 118, 99, 111, 115, 113, 100, 114, 102, 97]⟩, .int .u8 110] W fun e w' => e = .returned (.int .i64 0) ∧ w' = W from fun W => index_calls ⟨#[110, 118, 99, 111, 115, 113, 100, 114, 102, 97]⟩ 110 W)
  have hb : decide (k ∈ ([3] : List Int)) = ((3 : Int) == k) := by
    by_cases h : k = 3
    · subst h; simp
    · have h2 : ((3 : Int) == k) = false := beq_eq_false_iff_ne.2 (fun e => h e.symm)
      rw [h2]; simpa using h
  have HBB := Go.Lib.hid hb
  clear h1 e1 hb
  go_enter Try.func24, Try.ntmps24
  go_wp2_with fail
  obtain ⟨w2, hw2⟩ : ∃ w2, w2 = (w.alloc (.cells #[.int .i64 k] 3)).alloc (.cells #[.int .i64 3, .int .i64 14, .int .i64 6, .int .i64 8, .int .i64 12, .int .i64 11, .int .i64 13, .int .i64 18, .int .i64 19, .int .i64 28] 3) := ⟨_, rfl⟩
  rw [← hw2] at x1 x2 HB ⊢
  clear hw2
  go_quiet (first | (go_at_call 34; refine Calls.quiet_of_same (HI.out _)))
  go_wp2_with fail
  go_ret
  exact ⟨by rw [HBB.out]; rfl, pw_below_drewN HB.out nq⟩

set_option maxHeartbeats 1000000 in
theorem isOf_118 (k : Int) (w : World) : Calls Try.prog 24 #[.int .u8 118, .int .i64 k] w fun e w' => e = .returned (.bool (decide (k ∈ ([14] : List Int)))) ∧ Below w.heap.size w w' := by
  have h1 := blk_new (w.alloc (.cells #[.int .i64 k] 3)) (.cells #[.int .i64 3, .int .i64 14, .int .i64 6, .int .i64 8, .int .i64 12, .int .i64 11, .int .i64 13, .int .i64 18, .int .i64 19, .int .i64 28] 3)
  have e1 : (w.alloc (.cells #[.int .i64 k] 3)).heap.size = w.heap.size + 1 := by simp
  rw [e1] at h1
  have x1 : ((w.alloc (.cells #[.int .i64 k] 3)).alloc (.cells #[.int .i64 3, .int .i64 14, .int .i64 6, .int .i64 8, .int .i64 12, .int .i64 11, .int .i64 13, .int .i64 18, .int .i64 19, .int .i64 28] 3)).cell? ⟨w.heap.size + 1, 1, none⟩ = some (.int .i64 14) := (blk_cell h1 1).trans rfl
  have x2 : ((w.alloc (.cells #[.int .i64 k] 3)).alloc (.cells #[.int .i64 3, .int .i64 14, .int .i64 6, .int .i64 8, .int .i64 12, .int .i64 11, .int .i64 13, .int .i64 18, .int .i64 19, .int .i64 28] 3)).cell? ⟨w.heap.size, 0, none⟩ = some (.int .i64 k) := (blk_cell (blk_alloc (blk_new w (.cells #[.int .i64 k] 3)) (.cells #[.int .i64 3, .int .i64 14, .int .i64 6, .int .i64 8, .int .i64 12, .int .i64 11, .int .i64 13, .int .i64 18, .int .i64 19, .int .i64 28] 3)) 0).trans rfl
  have HB := Go.Lib.hid (below_alloc (below_alloc (Below.refl w.heap.size w) (.cells #[.int .i64 k] 3)) (.cells #[.int .i64 3, .int .i64 14, .int .i64 6, .int .i64 8, .int .i64 12, .int .i64 11, .int .i64 13, .int .i64 18, .int .i64 19, .int .i64 28] 3))
  have HI := Go.Lib.hid (show ∀ W : World, Calls Try.prog 34 #[.string ⟨#[110, 118, 99, 111, 115, 113, 100, 114, 102, 97]⟩, .int .u8 118] W fun e w' => e = .returned (.int .i64 1) ∧ w' = W from fun W => index_calls ⟨#[110, 118, 99, 111, 115, 113, 100, 114, 102, 97]⟩ 118 W)
  have hb : decide (k ∈ ([14] : List Int)) = ((14 : Int) == k) := by
    by_cases h : k = 14
    · subst h; simp
    · have h2 : ((14 : Int) == k) = false := beq_eq_false_iff_ne.2 (fun e => h e.symm)
      rw [h2]; simpa using h
  have HBB := Go.Lib.hid hb
  clear h1 e1 hb
  go_enter Try.func24, Try.ntmps24
  go_wp2_with fail
  obtain ⟨w2, hw2⟩ : ∃ w2, w2 = (w.alloc (.cells #[.int .i64 k] 3)).alloc (.cells #[.int .i64 3, .int .i64 14, .int .i64 6, .int .i64 8, .int .i64 12, .int .i64 11, .int .i64 13, .int .i64 18, .int .i64 19, .int .i64 28] 3) := ⟨_, rfl⟩
  rw [← hw2] at x1 x2 HB ⊢
  clear hw2
  go_quiet (first | (go_at_call 34; refine Calls.quiet_of_same (HI.out _)))
  go_wp2_with fail
  go_ret
  exact ⟨by rw [HBB.out]; rfl, pw_below_drewN HB.out nq⟩

set_option maxHeartbeats 1000000 in
theorem isOf_99 (k : Int) (w : World) : Calls Try.prog 24 #[.int .u8 99, .int .i64 k] w fun e w' => e = .returned (.bool (decide (k ∈ ([6] : List Int)))) ∧ Below w.heap.size w w' := by
  have h1 := blk_new (w.alloc (.cells #[.int .i64 k] 3)) (.cells #[.int .i64 3, .int .i64 14, .int .i64 6, .int .i64 8, .int .i64 12, .int .i64 11, .int .i64 13, .int .i64 18, .int .i64 19, .int .i64 28] 3)
  have e1 : (w.alloc (.cells #[.int .i64 k] 3)).heap.size = w.heap.size + 1 := by simp
  rw [e1] at h1
  have x1 : ((w.alloc (.cells #[.int .i64 k] 3)).alloc (.cells #[.int .i64 3, .int .i64 14, .int .i64 6, .int .i64 8, .int .i64 12, .int .i64 11, .int .i64 13, .int .i64 18, .int .i64 19, .int .i64 28] 3)).cell? ⟨w.heap.size + 1, 2, none⟩ = some (.int .i64 6) := (blk_cell h1 2).trans rfl
  have x2 : ((w.alloc (.cells #[.int .i64 k] 3)).alloc (.cells #[.int .i64 3, .int .i64 14, .int .i64 6, .int .i64 8, .int .i64 12, .int .i64 11, .int .i64 13, .int .i64 18, .int .i64 19, .int .i64 28] 3)).cell? ⟨w.heap.size, 0, none⟩ = some (.int .i64 k) := (blk_cell (blk_alloc (blk_new w (.cells #[.int .i64 k] 3)) (.cells #[.int .i64 3, .int .i64 14, .int .i64 6, .int .i64 8, .int .i64 12, .int .i64 11, .int .i64 13, .int .i64 18, .int .i64 19, .int .i64 28] 3)) 0).trans rfl
  have HB := Go.Lib.hid (below_alloc (below_alloc (Below.refl w.heap.size w) (.cells #[.int .i64 k] 3)) (.cells #[.int .i64 3, .int .i64 14, .int .i64 6, .int .i64 8, .int .i64 12, .int .i64 11, .int .i64 13, .int .i64 18, .int .i64 19, .int .i64 28] 3))
  have HI := Go.Lib.hid (show ∀ W : World, Calls Try.prog 34 #[.string ⟨#[110, 118, 99, 111, 115, 113, 100, 114, 102, 97]⟩, .int .u8 99] W fun e w' => e = .returned (.int .i64 2) ∧ w' = W from fun W => index_calls ⟨#[110, 118, 99, 111, 115, 113, 100, 114, 102, 97]⟩ 99 W)
  have hb : decide (k ∈ ([6] : List Int)) = ((6 : Int) == k) := by
    by_cases h : k = 6
    · subst h; simp
    · have h2 : ((6 : Int) == k) = false := beq_eq_false_iff_ne.2 (fun e => h e.symm)
      rw [h2]; simpa using h
  have HBB := Go.Lib.hid hb
  clear h1 e1 hb
  go_enter Try.func24, Try.ntmps24
  go_wp2_with fail
  obtain ⟨w2, hw2⟩ : ∃ w2, w2 = (w.alloc (.cells #[.int .i64 k] 3)).alloc (.cells #[.int .i64 3, .int .i64 14, .int .i64 6, .int .i64 8, .int .i64 12, .int .i64 11, .int .i64 13, .int .i64 18, .int .i64 19, .int .i64 28] 3) := ⟨_, rfl⟩
  rw [← hw2] at x1 x2 HB ⊢
  clear hw2
  go_quiet (first | (go_at_call 34; refine Calls.quiet_of_same (HI.out _)))
  go_wp2_with fail
  go_ret
  exact ⟨by rw [HBB.out]; rfl, pw_below_drewN HB.out nq⟩

set_option maxHeartbeats 1000000 in
theorem isOf_111 (k : Int) (w : World) : Calls Try.prog 24 #[.int .u8 111, .int .i64 k] w fun e w' => e = .returned (.bool (decide (k ∈ ([8] : List Int)))) ∧ Below w.heap.size w w' := by
  have h1 := blk_new (w.alloc (.cells #[.int .i64 k] 3)) (.cells #[.int .i64 3, .int .i64 14, .int .i64 6, .int .i64 8, .int .i64 12, .int .i64 11, .int .i64 13, .int .i64 18, .int .i64 19, .int .i64 28] 3)
  have e1 : (w.alloc (.cells #[.int .i64 k] 3)).heap.size = w.heap.size + 1 := by simp
  rw [e1] at h1
  have x1 : ((w.alloc (.cells #[.int .i64 k] 3)).alloc (.cells #[.int .i64 3, .int .i64 14, .int .i64 6, .int .i64 8, .int .i64 12, .int .i64 11, .int .i64 13, .int .i64 18, .int .i64 19, .int .i64 28] 3)).cell? ⟨w.heap.size + 1, 3, none⟩ = some (.int .i64 8) := (blk_cell h1 3).trans rfl
  have x2 : ((w.alloc (.cells #[.int .i64 k] 3)).alloc (.cells #[.int .i64 3, .int .i64 14, .int .i64 6, .int .i64 8, .int .i64 12, .int .i64 11, .int .i64 13, .int .i64 18, .int .i64 19, .int .i64 28] 3)).cell? ⟨w.heap.size, 0, none⟩ = some (.int .i64 k) := (blk_cell (blk_alloc (blk_new w (.cells #[.int .i64 k] 3)) (.cells #[.int .i64 3, .int .i64 14, .int .i64 6, .int .i64 8, .int .i64 12, .int .i64 11, .int .i64 13, .int .i64 18, .int .i64 19, .int .i64 28] 3)) 0).trans rfl
  have HB := Go.Lib.hid (below_alloc (below_alloc (Below.refl w.heap.size w) (.cells #[.int .i64 k] 3)) (.cells #[.int .i64 3, .int .i64 14, .int .i64 6, .int .i64 8, .int .i64 12, .int .i64 11, .int .i64 13, .int .i64 18, .int .i64 19, .int .i64 28] 3))
  have HI := Go.Lib.hid (show ∀ W : World, Calls Try.prog 34 #[.string ⟨#[110, 118, 99, 111, 115, 113, 100, 114, 102, 97]⟩, .int .u8 111] W fun e w' => e = .returned (.int .i64 3) ∧ w' = W from fun W => index_calls ⟨#[110, 118, 99, 111, 115, 113, 100, 114, 102, 97]⟩ 111 W)
  have hb : decide (k ∈ ([8] : List Int)) = ((8 : Int) == k) := by
    by_cases h : k = 8
    · subst h; simp
    · have h2 : ((8 : Int) == k) = false := beq_eq_false_iff_ne.2 (fun e => h e.symm)
      rw [h2]; simpa using h
  have HBB := Go.Lib.hid hb
  clear h1 e1 hb
  go_enter Try.func24, Try.ntmps24
  go_wp2_with fail
  obtain ⟨w2, hw2⟩ : ∃ w2, w2 = (w.alloc (.cells #[.int .i64 k] 3)).alloc (.cells #[.int .i64 3, .int .i64 14, .int .i64 6, .int .i64 8, .int .i64 12, .int .i64 11, .int .i64 13, .int .i64 18, .int .i64 19, .int .i64 28] 3) := ⟨_, rfl⟩
  rw [← hw2] at x1 x2 HB ⊢
  clear hw2
  go_quiet (first | (go_at_call 34; refine Calls.quiet_of_same (HI.out _)))
  go_wp2_with fail
  go_ret
  exact ⟨by rw [HBB.out]; rfl, pw_below_drewN HB.out nq⟩

set_option maxHeartbeats 1000000 in
theorem isOf_115 (k : Int) (w : World) : Calls Try.prog 24 #[.int .u8 115, .int .i64 k] w fun e w' => e = .returned (.bool (decide (k ∈ ([12] : List Int)))) ∧ Below w.heap.size w w' := by
  have h1 := blk_new (w.alloc (.cells #[.int .i64 k] 3)) (.cells #[.int .i64 3, .int .i64 14, .int .i64 6, .int .i64 8, .int .i64 12, .int .i64 11, .int .i64 13, .int .i64 18, .int .i64 19, .int .i64 28] 3)
  have e1 : (w.alloc (.cells #[.int .i64 k] 3)).heap.size = w.heap.size + 1 := by simp
  rw [e1] at h1
  have x1 : ((w.alloc (.cells #[.int .i64 k] 3)).alloc (.cells #[.int .i64 3, .int .i64 14, .int .i64 6, .int .i64 8, .int .i64 12, .int .i64 11, .int .i64 13, .int .i64 18, .int .i64 19, .int .i64 28] 3)).cell? ⟨w.heap.size + 1, 4, none⟩ = some (.int .i64 12) := (blk_cell h1 4).trans rfl
  have x2 : ((w.alloc (.cells #[.int .i64 k] 3)).alloc (.cells #[.int .i64 3, .int .i64 14, .int .i64 6, .int .i64 8, .int .i64 12, .int .i64 11, .int .i64 13, .int .i64 18, .int .i64 19, .int .i64 28] 3)).cell? ⟨w.heap.size, 0, none⟩ = some (.int .i64 k) := (blk_cell (blk_alloc (blk_new w (.cells #[.int .i64 k] 3)) (.cells #[.int .i64 3, .int .i64 14, .int .i64 6, .int .i64 8, .int .i64 12, .int .i64 11, .int .i64 13, .int .i64 18, .int .i64 19, .int .i64 28] 3)) 0).trans rfl
  have HB := Go.Lib.hid (below_alloc (below_alloc (Below.refl w.heap.size w) (.cells #[.int .i64 k] 3)) (.cells #[.int .i64 3, .int .i64 14, .int .i64 6, .int .i64 8, .int .i64 12, .int .i64 11, .int .i64 13, .int .i64 18, .int .i64 19, .int .i64 28] 3))
  have HI := Go.Lib.hid (show ∀ W : World, Calls Try.prog 34 #[.string ⟨#[110, 118, 99, 111, 115, 113, 100, 114, 102, 97]⟩, .int .u8 115] W fun e w' => e = .returned (.int .i64 4) ∧ w' = W from fun W => index_calls ⟨#[110, 118, 99, 111, 115, 113, 100, 114, 102, 97]⟩ 115 W)
  have hb : decide (k ∈ ([12] : List Int)) = ((12 : Int) == k) := by
    by_cases h : k = 12
    · subst h; simp
    · have h2 : ((12 : Int) == k) = false := beq_eq_false_iff_ne.2 (fun e => h e.symm)
      rw [h2]; simpa using h
  have HBB := Go.Lib.hid hb
  clear h1 e1 hb
  go_enter Try.func24, Try.ntmps24
  go_wp2_with fail
  obtain ⟨w2, hw2⟩ : ∃ w2, w2 = (w.alloc (.cells #[.int .i64 k] 3)).alloc (.cells #[.int .i64 3, .int .i64 14, .int .i64 6, .int .i64 8, .int .i64 12, .int .i64 11, .int .i64 13, .int .i64 18, .int .i64 19, .int .i64 28] 3) := ⟨_, rfl⟩
  rw [← hw2] at x1 x2 HB ⊢
  clear hw2
  go_quiet (first | (go_at_call 34; refine Calls.quiet_of_same (HI.out _)))
  go_wp2_with fail
  go_ret
  exact ⟨by rw [HBB.out]; rfl, pw_below_drewN HB.out nq⟩

set_option maxHeartbeats 1000000 in
theorem isOf_113 (k : Int) (w : World) : Calls Try.prog 24 #[.int .u8 113, .int .i64 k] w fun e w' => e = .returned (.bool (decide (k ∈ ([11] : List Int)))) ∧ Below w.heap.size w w' := by
  have h1 := blk_new (w.alloc (.cells #[.int .i64 k] 3)) (.cells #[.int .i64 3, .int .i64 14, .int .i64 6, .int .i64 8, .int .i64 12, .int .i64 11, .int .i64 13, .int .i64 18, .int .i64 19, .int .i64 28] 3)
  have e1 : (w.alloc (.cells #[.int .i64 k] 3)).heap.size = w.heap.size + 1 := by simp
  rw [e1] at h1
  have x1 : ((w.alloc (.cells #[.int .i64 k] 3)).alloc (.cells #[.int .i64 3, .int .i64 14, .int .i64 6, .int .i64 8, .int .i64 12, .int .i64 11, .int .i64 13, .int .i64 18, .int .i64 19, .int .i64 28] 3)).cell? ⟨w.heap.size + 1, 5, none⟩ = some (.int .i64 11) := (blk_cell h1 5).trans rfl
  have x2 : ((w.alloc (.cells #[.int .i64 k] 3)).alloc (.cells #[.int .i64 3, .int .i64 14, .int .i64 6, .int .i64 8, .int .i64 12, .int .i64 11, .int .i64 13, .int .i64 18, .int .i64 19, .int .i64 28] 3)).cell? ⟨w.heap.size, 0, none⟩ = some (.int .i64 k) := (blk_cell (blk_alloc (blk_new w (.cells #[.int .i64 k] 3)) (.cells #[.int .i64 3, .int .i64 14, .int .i64 6, .int .i64 8, .int .i64 12, .int .i64 11, .int .i64 13, .int .i64 18, .int .i64 19, .int .i64 28] 3)) 0).trans rfl
  have HB := Go.Lib.hid (below_alloc (below_alloc (Below.refl w.heap.size w) (.cells #[.int .i64 k] 3)) (.cells #[.int .i64 3, .int .i64 14, .int .i64 6, .int .i64 8, .int .i64 12, .int .i64 11, .int .i64 13, .int .i64 18, .int .i64 19, .int .i64 28] 3))
  have HI := Go.Lib.hid (show ∀ W : World, Calls Try.prog 34 #[.string ⟨#[110, 118, 99, 111, 115, 113, 100, 114, 102, 97]⟩, .int .u8 113] W fun e w' => e = .returned (.int .i64 5) ∧ w' = W from fun W => index_calls ⟨#[110, 118, 99, 111, 115, 113, 100, 114, 102, 97]⟩ 113 W)
  have hb : decide (k ∈ ([11] : List Int)) = ((11 : Int) == k) := by
    by_cases h : k = 11
    · subst h; simp
    · have h2 : ((11 : Int) == k) = false := beq_eq_false_iff_ne.2 (fun e => h e.symm)
      rw [h2]; simpa using h
  have HBB := Go.Lib.hid hb
  clear h1 e1 hb
  go_enter Try.func24, Try.ntmps24
  go_wp2_with fail
  obtain ⟨w2, hw2⟩ : ∃ w2, w2 = (w.alloc (.cells #[.int .i64 k] 3)).alloc (.cells #[.int .i64 3, .int .i64 14, .int .i64 6, .int .i64 8, .int .i64 12, .int .i64 11, .int .i64 13, .int .i64 18, .int .i64 19, .int .i64 28] 3) := ⟨_, rfl⟩
  rw [← hw2] at x1 x2 HB ⊢
  clear hw2
  go_quiet (first | (go_at_call 34; refine Calls.quiet_of_same (HI.out _)))
  go_wp2_with fail
  go_ret
  exact ⟨by rw [HBB.out]; rfl, pw_below_drewN HB.out nq⟩

set_option maxHeartbeats 1000000 in
theorem isOf_100 (k : Int) (w : World) : Calls Try.prog 24 #[.int .u8 100, .int .i64 k] w fun e w' => e = .returned (.bool (decide (k ∈ ([13] : List Int)))) ∧ Below w.heap.size w w' := by
  have h1 := blk_new (w.alloc (.cells #[.int .i64 k] 3)) (.cells #[.int .i64 3, .int .i64 14, .int .i64 6, .int .i64 8, .int .i64 12, .int .i64 11, .int .i64 13, .int .i64 18, .int .i64 19, .int .i64 28] 3)
  have e1 : (w.alloc (.cells #[.int .i64 k] 3)).heap.size = w.heap.size + 1 := by simp
  rw [e1] at h1
  have x1 : ((w.alloc (.cells #[.int .i64 k] 3)).alloc (.cells #[.int .i64 3, .int .i64 14, .int .i64 6, .int .i64 8, .int .i64 12, .int .i64 11, .int .i64 13, .int .i64 18, .int .i64 19, .int .i64 28] 3)).cell? ⟨w.heap.size + 1, 6, none⟩ = some (.int .i64 13) := (blk_cell h1 6).trans rfl
  have x2 : ((w.alloc (.cells #[.int .i64 k] 3)).alloc (.cells #[.int .i64 3, .int .i64 14, .int .i64 6, .int .i64 8, .int .i64 12, .int .i64 11, .int .i64 13, .int .i64 18, .int .i64 19, .int .i64 28] 3)).cell? ⟨w.heap.size, 0, none⟩ = some (.int .i64 k) := (blk_cell (blk_alloc (blk_new w (.cells #[.int .i64 k] 3)) (.cells #[.int .i64 3, .int .i64 14, .int .i64 6, .int .i64 8, .int .i64 12, .int .i64 11, .int .i64 13, .int .i64 18, .int .i64 19, .int .i64 28] 3)) 0).trans rfl
  have HB := Go.Lib.hid (below_alloc (below_alloc (Below.refl w.heap.size w) (.cells #[.int .i64 k] 3)) (.cells #[.int .i64 3, .int .i64 14, .int .i64 6, .int .i64 8, .int .i64 12, .int .i64 11, .int .i64 13, .int .i64 18, .int .i64 19, .int .i64 28] 3))
  have HI := Go.Lib.hid (show ∀ W : World, Calls Try.prog 34 #[.string ⟨#[110, 118, 99, 111, 115, 113, 100, 114, 102, 97]⟩, .int .u8 100] W fun e w' => e = .returned (.int .i64 6) ∧ w' = W from fun W => index_calls ⟨#[110, 118, 99, 111, 115, 113, 100, 114, 102, 97]⟩ 100 W)
  have hb : decide (k ∈ ([13] : List Int)) = ((13 : Int) == k) := by
    by_cases h : k = 13
    · subst h; simp
    · have h2 : ((13 : Int) == k) = false := beq_eq_false_iff_ne.2 (fun e => h e.symm)
      rw [h2]; simpa using h
  have HBB := Go.Lib.hid hb
  clear h1 e1 hb
  go_enter Try.func24, Try.ntmps24
  go_wp2_with fail
  obtain ⟨w2, hw2⟩ : ∃ w2, w2 = (w.alloc (.cells #[.int .i64 k] 3)).alloc (.cells #[.int .i64 3, .int .i64 14, .int .i64 6, .int .i64 8, .int .i64 12, .int .i64 11, .int .i64 13, .int .i64 18, .int .i64 19, .int .i64 28] 3) := ⟨_, rfl⟩
  rw [← hw2] at x1 x2 HB ⊢
  clear hw2
  go_quiet (first | (go_at_call 34; refine Calls.quiet_of_same (HI.out _)))
  go_wp2_with fail
  go_ret
  exact ⟨by rw [HBB.out]; rfl, pw_below_drewN HB.out nq⟩

set_option maxHeartbeats 1000000 in
theorem isOf_114 (k : Int) (w : World) : Calls Try.prog 24 #[.int .u8 114, .int .i64 k] w fun e w' => e = .returned (.bool (decide (k ∈ ([18] : List Int)))) ∧ Below w.heap.size w w' := by
  have h1 := blk_new (w.alloc (.cells #[.int .i64 k] 3)) (.cells #[.int .i64 3, .int .i64 14, .int .i64 6, .int .i64 8, .int .i64 12, .int .i64 11, .int .i64 13, .int .i64 18, .int .i64 19, .int .i64 28] 3)
  have e1 : (w.alloc (.cells #[.int .i64 k] 3)).heap.size = w.heap.size + 1 := by simp
  rw [e1] at h1
  have x1 : ((w.alloc (.cells #[.int .i64 k] 3)).alloc (.cells #[.int .i64 3, .int .i64 14, .int .i64 6, .int .i64 8, .int .i64 12, .int .i64 11, .int .i64 13, .int .i64 18, .int .i64 19, .int .i64 28] 3)).cell? ⟨w.heap.size + 1, 7, none⟩ = some (.int .i64 18) := (blk_cell h1 7).trans rfl
  have x2 : ((w.alloc (.cells #[.int .i64 k] 3)).alloc (.cells #[.int .i64 3, .int .i64 14, .int .i64 6, .int .i64 8, .int .i64 12, .int .i64 11, .int .i64 13, .int .i64 18, .int .i64 19, .int .i64 28] 3)).cell? ⟨w.heap.size, 0, none⟩ = some (.int .i64 k) := (blk_cell (blk_alloc (blk_new w (.cells #[.int .i64 k] 3)) (.cells #[.int .i64 3, .int .i64 14, .int .i64 6, .int .i64 8, .int .i64 12, .int .i64 11, .int .i64 13, .int .i64 18, .int .i64 19, .int .i64 28] 3)) 0).trans rfl
  have HB := Go.Lib.hid (below_alloc (below_alloc (Below.refl w.heap.size w) (.cells #[.int .i64 k] 3)) (.cells #[.int .i64 3, .int .i64 14, .int .i64 6, .int .i64 8, .int .i64 12, .int .i64 11, .int .i64 13, .int .i64 18, .int .i64 19, .int .i64 28] 3))
  have HI := Go.Lib.hid (show ∀ W : World, Calls Try.prog 34 #[.string ⟨#[110, 118, 99, 111, 115, 113, 100, 114, 102, 97]⟩, .int .u8 114] W fun e w' => e = .returned (.int .i64 7) ∧ w' = W from fun W => index_calls ⟨#[110, 118, 99, 111, 115, 113, 100, 114, 102, 97]⟩ 114 W)
  have hb : decide (k ∈ ([18] : List Int)) = ((18 : Int) == k) := by
    by_cases h : k = 18
    · subst h; simp
    · have h2 : ((18 : Int) == k) = false := beq_eq_false_iff_ne.2 (fun e => h e.symm)
      rw [h2]; simpa using h
  have HBB := Go.Lib.hid hb
  clear h1 e1 hb
  go_enter Try.func24, Try.ntmps24
  go_wp2_with fail
  obtain ⟨w2, hw2⟩ : ∃ w2, w2 = (w.alloc (.cells #[.int .i64 k] 3)).alloc (.cells #[.int .i64 3, .int .i64 14, .int .i64 6, .int .i64 8, .int .i64 12, .int .i64 11, .int .i64 13, .int .i64 18, .int .i64 19, .int .i64 28] 3) := ⟨_, rfl⟩
  rw [← hw2] at x1 x2 HB ⊢
  clear hw2
  go_quiet (first | (go_at_call 34; refine Calls.quiet_of_same (HI.out _)))
  go_wp2_with fail
  go_ret
  exact ⟨by rw [HBB.out]; rfl, pw_below_drewN HB.out nq⟩

set_option maxHeartbeats 1000000 in
theorem isOf_102 (k : Int) (w : World) : Calls Try.prog 24 #[.int .u8 102, .int .i64 k] w fun e w' => e = .returned (.bool (decide (k ∈ ([19] : List Int)))) ∧ Below w.heap.size w w' := by
  have h1 := blk_new (w.alloc (.cells #[.int .i64 k] 3)) (.cells #[.int .i64 3, .int .i64 14, .int .i64 6, .int .i64 8, .int .i64 12, .int .i64 11, .int .i64 13, .int .i64 18, .int .i64 19, .int .i64 28] 3)
  have e1 : (w.alloc (.cells #[.int .i64 k] 3)).heap.size = w.heap.size + 1 := by simp
  rw [e1] at h1
  have x1 : ((w.alloc (.cells #[.int .i64 k] 3)).alloc (.cells #[.int .i64 3, .int .i64 14, .int .i64 6, .int .i64 8, .int .i64 12, .int .i64 11, .int .i64 13, .int .i64 18, .int .i64 19, .int .i64 28] 3)).cell? ⟨w.heap.size + 1, 8, none⟩ = some (.int .i64 19) := (blk_cell h1 8).trans rfl
  have x2 : ((w.alloc (.cells #[.int .i64 k] 3)).alloc (.cells #[.int .i64 3, .int .i64 14, .int .i64 6, .int .i64 8, .int .i64 12, .int .i64 11, .int .i64 13, .int .i64 18, .int .i64 19, .int .i64 28] 3)).cell? ⟨w.heap.size, 0, none⟩ = some (.int .i64 k) := (blk_cell (blk_alloc (blk_new w (.cells #[.int .i64 k] 3)) (.cells #[.int .i64 3, .int .i64 14, .int .i64 6, .int .i64 8, .int .i64 12, .int .i64 11, .int .i64 13, .int .i64 18, .int .i64 19, .int .i64 28] 3)) 0).trans rfl
  have HB := Go.Lib.hid (below_alloc (below_alloc (Below.refl w.heap.size w) (.cells #[.int .i64 k] 3)) (.cells #[.int .i64 3, .int .i64 14, .int .i64 6, .int .i64 8, .int .i64 12, .int .i64 11, .int .i64 13, .int .i64 18, .int .i64 19, .int .i64 28] 3))
  have HI := Go.Lib.hid (show ∀ W : World, Calls Try.prog 34 #[.string ⟨#[110, 118, 99, 111, 115, 113, 100, 114, 102, 97]⟩, .int .u8 102] W fun e w' => e = .returned (.int .i64 8) ∧ w' = W from fun W => index_calls ⟨#[110, 118, 99, 111, 115, 113, 100, 114, 102, 97]⟩ 102 W)
  have hb : decide (k ∈ ([19] : List Int)) = ((19 : Int) == k) := by
    by_cases h : k = 19
    · subst h; simp
    · have h2 : ((19 : Int) == k) = false := beq_eq_false_iff_ne.2 (fun e => h e.symm)
      rw [h2]; simpa using h
  have HBB := Go.Lib.hid hb
  clear h1 e1 hb
  go_enter Try.func24, Try.ntmps24
  go_wp2_with fail
  obtain ⟨w2, hw2⟩ : ∃ w2, w2 = (w.alloc (.cells #[.int .i64 k] 3)).alloc (.cells #[.int .i64 3, .int .i64 14, .int .i64 6, .int .i64 8, .int .i64 12, .int .i64 11, .int .i64 13, .int .i64 18, .int .i64 19, .int .i64 28] 3) := ⟨_, rfl⟩
  rw [← hw2] at x1 x2 HB ⊢
  clear hw2
  go_quiet (first | (go_at_call 34; refine Calls.quiet_of_same (HI.out _)))
  go_wp2_with fail
  go_ret
  exact ⟨by rw [HBB.out]; rfl, pw_below_drewN HB.out nq⟩

set_option maxHeartbeats 1000000 in
theorem isOf_97 (k : Int) (w : World) : Calls Try.prog 24 #[.int .u8 97, .int .i64 k] w fun e w' => e = .returned (.bool (decide (k ∈ ([28] : List Int)))) ∧ Below w.heap.size w w' := by
  have h1 := blk_new (w.alloc (.cells #[.int .i64 k] 3)) (.cells #[.int .i64 3, .int .i64 14, .int .i64 6, .int .i64 8, .int .i64 12, .int .i64 11, .int .i64 13, .int .i64 18, .int .i64 19, .int .i64 28] 3)
  have e1 : (w.alloc (.cells #[.int .i64 k] 3)).heap.size = w.heap.size + 1 := by simp
  rw [e1] at h1
  have x1 : ((w.alloc (.cells #[.int .i64 k] 3)).alloc (.cells #[.int .i64 3, .int .i64 14, .int .i64 6, .int .i64 8, .int .i64 12, .int .i64 11, .int .i64 13, .int .i64 18, .int .i64 19, .int .i64 28] 3)).cell? ⟨w.heap.size + 1, 9, none⟩ = some (.int .i64 28) := (blk_cell h1 9).trans rfl
  have x2 : ((w.alloc (.cells #[.int .i64 k] 3)).alloc (.cells #[.int .i64 3, .int .i64 14, .int .i64 6, .int .i64 8, .int .i64 12, .int .i64 11, .int .i64 13, .int .i64 18, .int .i64 19, .int .i64 28] 3)).cell? ⟨w.heap.size, 0, none⟩ = some (.int .i64 k) := (blk_cell (blk_alloc (blk_new w (.cells #[.int .i64 k] 3)) (.cells #[.int .i64 3, .int .i64 14, .int .i64 6, .int .i64 8, .int .i64 12, .int .i64 11, .int .i64 13, .int .i64 18, .int .i64 19, .int .i64 28] 3)) 0).trans rfl
  have HB := Go.Lib.hid (below_alloc (below_alloc (Below.refl w.heap.size w) (.cells #[.int .i64 k] 3)) (.cells #[.int .i64 3, .int .i64 14, .int .i64 6, .int .i64 8, .int .i64 12, .int .i64 11, .int .i64 13, .int .i64 18, .int .i64 19, .int .i64 28] 3))
  have HI := Go.Lib.hid (show ∀ W : World, Calls Try.prog 34 #[.string ⟨#[110, 118, 99, 111, 115, 113, 100, 114, 102, 97]⟩, .int .u8 97] W fun e w' => e = .returned (.int .i64 9) ∧ w' = W from fun W => index_calls ⟨#[110, 118, 99, 111, 115, 113, 100, 114, 102, 97]⟩ 97 W)
  have hb : decide (k ∈ ([28] : List Int)) = ((28 : Int) == k) := by
    by_cases h : k = 28
    · subst h; simp
    · have h2 : ((28 : Int) == k) = false := beq_eq_false_iff_ne.2 (fun e => h e.symm)
      rw [h2]; simpa using h
  have HBB := Go.Lib.hid hb
  clear h1 e1 hb
  go_enter Try.func24, Try.ntmps24
  go_wp2_with fail
  obtain ⟨w2, hw2⟩ : ∃ w2, w2 = (w.alloc (.cells #[.int .i64 k] 3)).alloc (.cells #[.int .i64 3, .int .i64 14, .int .i64 6, .int .i64 8, .int .i64 12, .int .i64 11, .int .i64 13, .int .i64 18, .int .i64 19, .int .i64 28] 3) := ⟨_, rfl⟩
  rw [← hw2] at x1 x2 HB ⊢
  clear hw2
  go_quiet (first | (go_at_call 34; refine Calls.quiet_of_same (HI.out _)))
  go_wp2_with fail
  go_ret
  exact ⟨by rw [HBB.out]; rfl, pw_below_drewN HB.out nq⟩

set_option maxHeartbeats 1000000 in
theorem isOf_88 (k : Int) (w : World) : Calls Try.prog 24 #[.int .u8 88, .int .i64 k] w fun e w' => e = .returned (.bool (decide (k ∈ ([14, 15, 16, 17, 20, 21, 22, 23, 24, 25, 26, 27, 29, 30, 31, 32] : List Int)))) ∧ Below w.heap.size w w' := by
  have H2 := Go.Lib.hid (blk_new w (.cells #[.int .i64 k] 3))
  have HB := Go.Lib.hid (below_alloc (Below.refl w.heap.size w) (.cells #[.int .i64 k] 3))
  have x0 : (w.alloc (.cells #[.int .i64 k] 3)).cell? ⟨w.heap.size, 0, none⟩ = some (.int .i64 k) := (blk_cell H2.out 0).trans rfl
  have hd : decide (k ∈ ([14, 15, 16, 17, 20, 21, 22, 23, 24, 25, 26, 27, 29, 30, 31, 32] : List Int)) = (decide (k ∈ ([14, 15, 16, 17] : List Int)) || decide (k ∈ ([20, 21, 22, 23, 24, 25, 26, 27, 29, 30, 31, 32] : List Int))) := by
    rw [← Bool.decide_or]
    congr 1
    simp only [List.mem_cons, List.not_mem_nil, or_false, or_assoc]
  rw [hd]
  clear hd
  have HT := Go.Lib.hid (fun W => isOf_84 k W)
  have HE := Go.Lib.hid (fun W => isOf_69 k W)
  generalize decide (k ∈ ([14, 15, 16, 17] : List Int)) = a at *
  generalize decide (k ∈ ([20, 21, 22, 23, 24, 25, 26, 27, 29, 30, 31, 32] : List Int)) = b at *
  go_enter Try.func24, Try.ntmps24
  go_wp2_with fail
  refine (HT.out _).mono ?_
  rintro e w1 ⟨rfl, hb1⟩
  have H3 := Go.Lib.hid (blk_below H2.out hb1)
  have HB1 := Go.Lib.hid (HB.out.trans (hb1.mono HB.out.size))
  have x1 : w1.cell? ⟨w.heap.size, 0, none⟩ = some (.int .i64 k) := (blk_cell H3.out 0).trans rfl
  clear hb1 x0
  cases a with
  | true =>
    go_wp2_with fail
    go_ret
    exact ⟨rfl, HB1.out⟩
  | false =>
    go_wp2_with fail
    refine (HE.out _).mono ?_
    rintro e w2 ⟨rfl, hb2⟩
    have HB2 := Go.Lib.hid (HB1.out.trans (hb2.mono HB1.out.size))
    clear hb2
    go_wp2_with fail
    go_ret
    exact ⟨rfl, HB2.out⟩

def letters : List Int := [68, 84, 69, 80, 86, 98, 104, 88, 110, 118, 99, 111, 115, 113, 100, 114, 102, 97]
theorem isOf_calls (c k : Int) (w : World) (hc : c ∈ letters) : Calls Try.prog 24 #[.int .u8 c, .int .i64 k] w fun e w' => e = .returned (.bool (decide (k ∈ kinds c))) ∧ Below w.heap.size w w' := by
  simp only [letters, List.mem_cons, List.not_mem_nil, or_false] at hc
  rcases hc with rfl | rfl | rfl | rfl | rfl | rfl | rfl | rfl | rfl | rfl | rfl | rfl | rfl | rfl | rfl | rfl | rfl | rfl
  · exact isOf_68 k w
  · exact isOf_84 k w
  · exact isOf_69 k w
  · exact isOf_80 k w
  · exact isOf_86 k w
  · exact isOf_98 k w
  · exact isOf_104 k w
  · exact isOf_88 k w
  · exact isOf_110 k w
  · exact isOf_118 k w
  · exact isOf_99 k w
  · exact isOf_111 k w
  · exact isOf_115 k w
  · exact isOf_113 k w
  · exact isOf_100 k w
  · exact isOf_114 k w
  · exact isOf_102 k w
  · exact isOf_97 k w
end Go.Proofs.Ytemdfhaceddmpaa.Tr
