import Derived.Test.YtemdfhaceddmpaaTt
namespace Go.Proofs.Ytemdfhaceddmpaa.Tr
open Go.Shelf Go.RowKit Go.Proofs.Ytemdfhaceddmpaa.PPrinterTells Go.Proofs.YtemdfhaceddmpaaW.PrintWords Go.Proofs.YtemdfhaceddmpaaW.PrintLast Go.Proofs.YtemdfhaceddmpaaW.PrintMore
set_option linter.unusedVariables false
set_option linter.unusedSimpArgs false

/-- A value that is a function with captured boxes. -/
def fv (n : Nat) (caps : Array Value) : Value := .func (.func n) #[] caps
/-- A function value that tells whether a kind is one of a letter; it needs nothing else of the world. -/
def FVal (f : Value) (c : Int) (W : World) : Prop := ∃ n fn caps, f = fv n caps ∧ Try.prog.funcs[n]? = some fn ∧ (fn.name == "runtime.NumGoroutine") = false ∧ fn.body.isSome = true ∧
  ∀ W', Below W.heap.size W W' → ∀ x : Int, Calls Try.prog n (#[.int .i64 x] ++ caps) W' fun e w' => e = .returned (.bool (decide (x ∈ kinds c))) ∧ w' = W'
theorem FVal.lift {f : Value} {c : Int} {W W' : World} (h : FVal f c W) (hb : Below W.heap.size W W') : FVal f c W' := by
  obtain ⟨n, fn, caps, h1, h2, h3, h4, h5⟩ := h
  exact ⟨n, fn, caps, h1, h2, h3, h4, fun W2 hb2 x => h5 W2 (below_step hb hb2) x⟩

theorem mem4 (x : Int) : decide (x ∈ kinds 84) = (decide (14 ≤ x) && decide (x ≤ 17)) := by
  rw [Bool.eq_iff_iff]; simp [kinds]; omega
theorem isType_calls (x : Int) (w : World) : Calls Try.prog 21 #[.int .i64 x] w fun e w' => e = .returned (.bool (decide (x ∈ kinds 84))) ∧ w' = w := by
  rw [mem4]
  by_cases h1 : 14 ≤ x
  · have d1 : decide (14 ≤ x) = true := decide_eq_true h1
    rw [d1]
    obtain ⟨b, hb⟩ : ∃ b, decide (x ≤ 17) = b := ⟨_, rfl⟩
    rw [hb]
    clear h1
    go_enter Try.func21, Try.ntmps21
    go_wp2_with fail
    go_ret
    exact ⟨rfl, rfl⟩
  · have d1 : decide (14 ≤ x) = false := decide_eq_false h1
    rw [d1]
    clear h1
    go_enter Try.func21, Try.ntmps21
    go_wp2_with fail
    go_ret
    exact ⟨rfl, rfl⟩
theorem mem80 (x : Int) : decide (x ∈ kinds 80) = (decide (35 ≤ x) && decide (x ≤ 38)) := by
  rw [Bool.eq_iff_iff]; simp [kinds]; omega
theorem isPat_calls (x : Int) (w : World) : Calls Try.prog 32 #[.int .i64 x] w fun e w' => e = .returned (.bool (decide (x ∈ kinds 80))) ∧ w' = w := by
  rw [mem80]
  by_cases h1 : 35 ≤ x
  · have d1 : decide (35 ≤ x) = true := decide_eq_true h1
    rw [d1]
    obtain ⟨b, hb⟩ : ∃ b, decide (x ≤ 38) = b := ⟨_, rfl⟩
    rw [hb]
    clear h1
    go_enter Try.func32, Try.ntmps32
    go_wp2_with fail
    go_ret
    exact ⟨rfl, rfl⟩
  · have d1 : decide (35 ≤ x) = false := decide_eq_false h1
    rw [d1]
    clear h1
    go_enter Try.func32, Try.ntmps32
    go_wp2_with fail
    go_ret
    exact ⟨rfl, rfl⟩
theorem isParam_calls (x : Int) (w : World) : Calls Try.prog 31 #[.int .i64 x] w fun e w' => e = .returned (.bool (decide (x ∈ kinds 86))) ∧ w' = w := by
  have hm : decide (x ∈ kinds 86) = ((x == 35) || (x == 36)) := by rw [Bool.eq_iff_iff]; simp [kinds]
  rw [hm]
  obtain ⟨b1, hb1⟩ : ∃ b, (x == 35) = b := ⟨_, rfl⟩
  obtain ⟨b2, hb2⟩ : ∃ b, (x == 36) = b := ⟨_, rfl⟩
  rw [hb1, hb2]
  clear hm
  cases b1
  all_goals
    go_enter Try.func31, Try.ntmps31
    go_wp2_with fail
    go_ret
    exact ⟨rfl, rfl⟩
theorem none_calls (x : Int) (w : World) : Calls Try.prog 37 #[.int .i64 x] w fun e w' => e = .returned (.bool (decide (x ∈ kinds 0))) ∧ w' = w := by
  have hm : decide (x ∈ kinds 0) = false := decide_eq_false (by simp [kinds])
  rw [hm]
  go_enter Try.func37, Try.ntmps37
  go_wp2_with fail
  go_ret
  exact ⟨rfl, rfl⟩
theorem isExpr_calls (x : Int) (w : World) : Calls Try.prog 15 #[.int .i64 x] w fun e w' => e = .returned (.bool (decide (x ∈ kinds 69))) ∧ w' = w := by
  have hm : decide (x ∈ kinds 69) = (decide (20 ≤ x) && decide (x ≤ 32) && (x != 28)) := by rw [Bool.eq_iff_iff]; simp [kinds]; omega
  rw [hm]
  obtain ⟨b1, hb1⟩ : ∃ b, decide (20 ≤ x) = b := ⟨_, rfl⟩
  obtain ⟨b2, hb2⟩ : ∃ b, decide (x ≤ 32) = b := ⟨_, rfl⟩
  obtain ⟨b3, hb3⟩ : ∃ b, (x != 28) = b := ⟨_, rfl⟩
  rw [hb1, hb2, hb3]
  clear hm
  cases b1
  all_goals cases b2
  all_goals
    go_enter Try.func15, Try.ntmps15
    go_wp2_with fail
    go_ret
    exact ⟨rfl, rfl⟩
theorem isDecl_calls (x : Int) (w : World) : Calls Try.prog 28 #[.int .i64 x] w fun e w' => e = .returned (.bool (decide (x ∈ kinds 68))) ∧ w' = w := by
  have hm : decide (x ∈ kinds 68) = ((decide (1 ≤ x) && decide (x ≤ 10) && (x != 3) && (x != 6) && (x != 8)) || (x == 12) || (x == 13)) := by rw [Bool.eq_iff_iff]; simp [kinds]; omega
  rw [hm]
  obtain ⟨b1, hb1⟩ : ∃ b, decide (1 ≤ x) = b := ⟨_, rfl⟩
  obtain ⟨b2, hb2⟩ : ∃ b, decide (x ≤ 10) = b := ⟨_, rfl⟩
  obtain ⟨b3, hb3⟩ : ∃ b, (x != 3) = b := ⟨_, rfl⟩
  obtain ⟨b4, hb4⟩ : ∃ b, (x != 6) = b := ⟨_, rfl⟩
  obtain ⟨b5, hb5⟩ : ∃ b, (x != 8) = b := ⟨_, rfl⟩
  obtain ⟨b6, hb6⟩ : ∃ b, (x == 12) = b := ⟨_, rfl⟩
  obtain ⟨b7, hb7⟩ : ∃ b, (x == 13) = b := ⟨_, rfl⟩
  rw [hb1, hb2, hb3, hb4, hb5, hb6, hb7]
  clear hm
  cases b1
  all_goals cases b2
  all_goals cases b3
  all_goals cases b4
  all_goals cases b5
  all_goals cases b6
  all_goals
    go_enter Try.func28, Try.ntmps28
    go_wp2_with fail
    go_ret
    exact ⟨rfl, rfl⟩

theorem a1_calls (x k : Int) (g : Nat) (w : World) (hc : w.cell? ⟨g, 0, none⟩ = some (.int .i64 k)) : Calls Try.prog 36 #[.int .i64 x, .pointer (some ⟨g, 0, none⟩)] w fun e w' => e = .returned (.bool (decide (x = k))) ∧ w' = w := by
  have hm : decide (x = k) = (x == k) := rfl
  rw [hm]
  obtain ⟨b1, hb1⟩ : ∃ b, (x == k) = b := ⟨_, rfl⟩
  rw [hb1]
  clear hm
  go_enter Try.func36, Try.ntmps36
  go_wp2_with fail
  go_ret
  exact ⟨rfl, rfl⟩
theorem FVal.fn {n : Nat} {fn : Func} {c : Int} (W : World) (h1 : Try.prog.funcs[n]? = some fn) (h2 : (fn.name == "runtime.NumGoroutine") = false) (h3 : fn.body.isSome = true) (h : ∀ x w, Calls Try.prog n #[.int .i64 x] w fun e w' => e = .returned (.bool (decide (x ∈ kinds c))) ∧ w' = w) : FVal (fv n #[]) c W :=
  ⟨n, fn, #[], rfl, h1, h2, h3, fun W' _ x => h x W'⟩
theorem FVal.type (W : World) : FVal (fv 21 #[]) 84 W := FVal.fn W Try.func21 (by kernel_rfl) (by kernel_rfl) isType_calls
theorem FVal.pat (W : World) : FVal (fv 32 #[]) 80 W := FVal.fn W Try.func32 (by kernel_rfl) (by kernel_rfl) isPat_calls
theorem FVal.param (W : World) : FVal (fv 31 #[]) 86 W := FVal.fn W Try.func31 (by kernel_rfl) (by kernel_rfl) isParam_calls
theorem FVal.none (W : World) : FVal (fv 37 #[]) 0 W := FVal.fn W Try.func37 (by kernel_rfl) (by kernel_rfl) none_calls
theorem FVal.expr (W : World) : FVal (fv 15 #[]) 69 W := FVal.fn W Try.func15 (by kernel_rfl) (by kernel_rfl) isExpr_calls
theorem FVal.decl (W : World) : FVal (fv 28 #[]) 68 W := FVal.fn W Try.func28 (by kernel_rfl) (by kernel_rfl) isDecl_calls
theorem FVal.a {W : World} {g : Nat} {k c : Int} (hb : W.heap[g]? = some (.cells #[.int .i64 k] 3 (0, 0))) (hc : kinds c = [k]) : FVal (fv 36 #[.pointer (some ⟨g, 0, Option.none⟩)]) c W :=
  ⟨36, _, _, rfl, Try.func36, by kernel_rfl, by kernel_rfl, fun W' hW x => by
    have h := a1_calls x k g W' ((blk_cell (blk_below hb hW) 0).trans rfl)
    have e : decide (x ∈ kinds c) = decide (x = k) := by rw [hc]; simp
    rw [e]
    exact h⟩

section
variable {P : Program} {ops : Array Oper} {Q : Exit → Act → World → Prop} {rest : List Oper} {oi : Oper} {a : Act} {w : World}
/-- A call of a function value out of a slot, in a plain region. -/
theorem goesVL (N : Option Tmp) (hd : oi.dst = N) (hg : oi.guard = none) {f : FuncId} {fn : Func} {caps : Array Value} {t : Tmp} {ars : Array Operand} {ts : Array TypeId} (hf : P.funcs[f]? = some fn) (hname : (fn.name == "runtime.NumGoroutine") = false) (hb : fn.body.isSome = true) (args : Array Value)
    (hop : oi.op = .call { callee := .value (.tmp t), args := ars, argTypes := ts }) (hev : a.eval (.tmp t) = .func (.func f) #[] caps) (hargs : ars.map a.eval = args)
    (h : Calls P f (args ++ caps) w fun e w' => ∃ v, e = .returned v ∧ wpList P ops Q rest (a.put N v) w') : wpList P ops Q (oi :: rest) a w := by
  refine wpList_plain hg fun K hK => ?_
  have he := enters_ hf hname hb (args ++ caps) w
  have hrun : (execOp a.eval oi).run P w = .ok (.enter f (args ++ caps)) w := by
    unfold execOp
    simp [hop, resolve, Deferred.ofValue, invoke, hev, hargs, he]
  unfold Oper.wp
  rw [hrun, Oper.upon_enter]
  refine h.mono fun e w'' hh => ?_
  obtain ⟨v, rfl, hk⟩ := hh
  subst hd
  exact hK _ _ hk
end
end Go.Proofs.Ytemdfhaceddmpaa.Tr
