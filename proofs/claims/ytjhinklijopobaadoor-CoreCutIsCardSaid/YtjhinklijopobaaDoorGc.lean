import Derived.Test.YtjhinklijopobaaDoorGb
namespace Go.Proofs.YtjhinklijopobaaDoor.Co
open Go.RowKit Go.Proofs.YtjhinklijopobaaDoor.PCoreChecks Go.Proofs.YtjhinklijopobaaDoorW.PrintWords Go.Proofs.YtjhinklijopobaaDoorW.PrintLast Go.Proofs.YtjhinklijopobaaDoorW.PrintMore
set_option linter.unusedVariables false
set_option linter.unusedSimpArgs false

/-! ### The document's constructors and List -/
set_option maxRecDepth 100000 in
theorem N_calls (op n : Int) (A : Option Addr) (k c : Nat) (w : World) : Calls Tryd.prog 45 #[.int .i64 op, .int .i64 n, .slice A k c] w fun e w' => e = .returned (ptrV w.heap.size) ∧ w' = w.alloc (.cells #[.int .i64 op, .int .i64 n, .slice none 0 0, .slice none 0 0, .slice none 0 0, .slice A k c] 76) := by
  go_enter Tryd.func45, Tryd.ntmps45
  go_wp2_with fail
  go_ret
  exact ⟨rfl, rfl⟩
set_option maxRecDepth 100000 in
theorem B_calls (op : Int) (A2 : Option Addr) (k2 c2 : Nat) (A : Option Addr) (k c : Nat) (w : World) : Calls Tryd.prog 19 #[.int .i64 op, .slice A2 k2 c2, .slice A k c] w fun e w' => e = .returned (ptrV w.heap.size) ∧ w' = w.alloc (.cells #[.int .i64 op, .int .i64 0, .slice A2 k2 c2, .slice none 0 0, .slice none 0 0, .slice A k c] 76) := by
  go_enter Tryd.func19, Tryd.ntmps19
  go_wp2_with fail
  go_ret
  exact ⟨rfl, rfl⟩
set_option maxRecDepth 100000 in
theorem W_calls (n : Int) (w : World) : Calls Tryd.prog 15 #[.int .i64 n] w fun e w' => e = .returned (ptrV w.heap.size) ∧ w' = w.alloc (.cells #[.int .i64 1, .int .i64 n, .slice none 0 0, .slice none 0 0, .slice none 0 0, .slice none 0 0] 76) := by
  have HC := Go.Lib.hid (N_calls 1 n none 0 0 w)
  go_enter Tryd.func15, Tryd.ntmps15
  go_wp2_with fail
  refine HC.out.mono ?_
  rintro e w1 ⟨rfl, rfl⟩
  clear HC
  go_wp2_with fail
  go_ret
  exact ⟨rfl, rfl⟩
set_option maxRecDepth 100000 in
theorem V_calls (n : Int) (w : World) : Calls Tryd.prog 20 #[.int .i64 n] w fun e w' => e = .returned (ptrV w.heap.size) ∧ w' = w.alloc (.cells #[.int .i64 0, .int .i64 n, .slice none 0 0, .slice none 0 0, .slice none 0 0, .slice none 0 0] 76) := by
  have HC := Go.Lib.hid (N_calls 0 n none 0 0 w)
  go_enter Tryd.func20, Tryd.ntmps20
  go_wp2_with fail
  refine HC.out.mono ?_
  rintro e w1 ⟨rfl, rfl⟩
  clear HC
  go_wp2_with fail
  go_ret
  exact ⟨rfl, rfl⟩

/-- A list of nodes that reads. -/
def LsP (L : List S28) (w : World) (e : Ending) (w' : World) : Prop := ∃ A c, e = .returned (.slice A L.length c) ∧ L.length ≤ c ∧ Kd.C k28 w' A L.length L ∧ Below w.heap.size w w'
set_option maxHeartbeats 4000000 in
set_option maxRecDepth 100000 in
theorem list_calls (t : List S28) (ps : Nat → Nat) (N : Nat) (w : World) (hT : Rf w t N ps) (htr : treeB t = true) (hn : t.length ≤ 4096) (i : Nat) (hi : i < t.length) (hiN : i < N) :
    Calls Tryd.prog 16 #[ptrV (ps i)] w (LsP (lst t (i + 1) i 0) w) := by
  obtain ⟨w1, hw1⟩ : ∃ w1, w1 = w.alloc (.cells #[.slice none 0 0] 22) := ⟨_, rfl⟩
  have hO : Out w w1 w.heap.size (fun _ => True) (.slice none 0 0) [] := by
    rw [hw1]
    exact ⟨below_alloc (Below.refl _ _) _, blk_new _ _, Nat.le_refl _, Kd.R_nil _ _ _ _ _⟩
  have HC := Go.Lib.hid (into_calls w t ps N hT htr hn w.heap.size (i + 1) i (by omega) hi hiN w1 _ _ _ hO (fun _ _ => trivial) (by have := cn_le t.length (Bl t i); unfold cntB; simp; omega))
  have HW := Go.Lib.hid hw1
  clear hT htr hn hi hiN hO hw1
  go_enter Tryd.func16, Tryd.ntmps16
  go_wp2_with fail
  rw [← HW.out]
  refine HC.out.mono ?_
  rintro e w2 ⟨v', rfl, hO, hF⟩
  rw [List.nil_append, List.length_nil] at hO
  obtain ⟨A, c, rfl, hl, hr⟩ := hO.reads
  have x0 := (blk_cell hO.bx 0).trans rfl
  have HV := Go.Lib.hid (show LsP (lst t (i + 1) i 0) w (.returned (.slice A (lst t (i + 1) i 0).length c)) w2 from ⟨A, c, rfl, hl, hr, hO.bl⟩)
  clear HC hO hF hl hr
  go_wp2_with fail
  go_ret
  exact HV.out
/-- The tree of one word. -/
def oneW (n : Int) : List S28 := [⟨1, n, [], [], []⟩]
theorem oneW_tree (n : Int) : treeB (oneW n) = true := rfl
theorem oneW_lst (n : Int) : lst (oneW n) 1 0 0 = oneW n := rfl
theorem oneW_rf (n : Int) (w : World) : Rf (w.alloc (.cells #[.int .i64 1, .int .i64 n, .slice none 0 0, .slice none 0 0, .slice none 0 0, .slice none 0 0] 76)) (oneW n) 1 (fun _ => w.heap.size) := by
  intro i hi h1
  obtain rfl : i = 0 := by omega
  exact ⟨none, 0, none, 0, 0, none, 0, none, 0, blk_new _ _, Nat.le_refl _, Kd.C_nil _ _, Nat.le_refl _, Kd.C_nil _ _, Nat.le_refl _, Kd.C_nil _ _⟩
theorem oneW_ein {n : Int} {w : World} {A : Option Addr} {c : Nat} (hl : (oneW n).length ≤ c) (hr : Kd.C k28 w A (oneW n).length (oneW n)) : Ein w (oneW n) A c := by
  refine ⟨fun x hx => ?_, fun x hx => ?_, hl, hr⟩
  · rw [List.mem_singleton.1 hx]; exact ⟨by simp, by simp, by simp, by simp⟩
  · rw [List.mem_singleton.1 hx]; simp
theorem oneW_body : bodyErr (oneW 1) [] false = 0 := by
  refine body_ok (by decide) (oneW_tree 1) (by decide) (by decide) (by decide) ?_
  obtain ⟨P, hP⟩ := par_exists (oneW_tree 1)
  rw [badName_iff hP []]
  rintro ⟨n, hf, _⟩
  cases hf with
  | var _ h h0 => exact absurd h0 (by simp [oneW])
  | kid _ h k hk c _ hc _ _ => exact absurd hk (by simp [oneW])
theorem body_zero {t : List S28} (h : bodyErr t [] false = 0) : t.length ≤ 4096 ∧ treeB t = true := by
  by_cases h2 : tErr t = 0
  · obtain ⟨h3, h4, _⟩ := tErr_zero h2
    exact ⟨by omega, h4⟩
  · rw [tErr_bad h2] at h
    exact absurd h h2
end Go.Proofs.YtjhinklijopobaaDoor.Co
