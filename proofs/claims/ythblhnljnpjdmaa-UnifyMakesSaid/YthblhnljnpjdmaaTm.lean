import Derived.Test.YthblhnljnpjdmaaTy
namespace Go.Proofs.Ythblhnljnpjdmaa.Ty
open Go.RowKit Go.Proofs.Ythblhnljnpjdmaa.PUnifyMakes Go.Proofs.YthblhnljnpjdmaaW.PrintWords Go.Proofs.YthblhnljnpjdmaaW.PrintLast Go.Proofs.YthblhnljnpjdmaaW.PrintMore
set_option linter.unusedVariables false
set_option maxRecDepth 100000 in
theorem var_calls (n : Int) (w : World) :
    Calls Try.prog 8 #[.int .i64 n] w fun e w' => e = .returned (.agg #[.int .i64 0, .string ⟨#[]⟩, .int .i64 n, .slice none 0 0]) ∧ Below w.heap.size w w' := by
  go_enter Try.func8, Try.ntmps8
  go_wp2_with fail
  refine bodyPost_ret (results_cell_row rfl _ _ w.heap.size 24 _ (0, 0) _ rfl (blk_new w _) rfl rfl rfl) rfl ?_
  exact ⟨rfl, below_alloc (Below.refl _ _) _⟩
set_option maxRecDepth 100000 in
theorem con_calls (s : ByteArray) (A : Option Addr) (n c : Nat) (w : World) :
    Calls Try.prog 6 #[.string s, .slice A n c] w fun e w' => e = .returned (.agg #[.int .i64 1, .string s, .int .i64 0, .slice A n c]) ∧ Below w.heap.size w w' := by
  go_enter Try.func6, Try.ntmps6
  go_wp2_with fail
  refine bodyPost_ret (results_cell_row rfl _ _ w.heap.size 24 _ (0, 0) _ rfl (blk_new w _) rfl rfl rfl) rfl ?_
  exact ⟨rfl, below_alloc (Below.refl _ _) _⟩
/-- The cells of two, of three types. -/
abbrev ty4 (x : S24) (A : Option Addr) (c : Nat) : List Value := [.int .i64 x.f0, .string x.f1, .int .i64 x.f2, .slice A x.f3.length c]
abbrev ob2 (x y : S24) (A B : Option Addr) (a b : Nat) : Obj := .cells #[.int .i64 x.f0, .string x.f1, .int .i64 x.f2, .slice A x.f3.length a, .int .i64 y.f0, .string y.f1, .int .i64 y.f2, .slice B y.f3.length b] 24
abbrev ob3 (x y z : S24) (A B C : Option Addr) (a b c : Nat) : Obj := .cells #[.int .i64 x.f0, .string x.f1, .int .i64 x.f2, .slice A x.f3.length a, .int .i64 y.f0, .string y.f1, .int .i64 y.f2, .slice B y.f3.length b, .int .i64 z.f0, .string z.f1, .int .i64 z.f2, .slice C z.f3.length c] 24
set_option maxRecDepth 100000 in
theorem ext_calls (s : ByteArray) (x y : S24) (A B : Option Addr) (a b : Nat) (w : World) :
    Calls Try.prog 7 #[.string s, tyV x A a, tyV y B b] w fun e w' => (∃ g, e = .returned (.agg #[.int .i64 5, .string s, .int .i64 0, .slice (some ⟨g, 0, none⟩) 2 2]) ∧ w'.heap[g]? = some (ob2 x y A B a b) ∧ w.heap.size ≤ g) ∧ Below w.heap.size w w' := by
  go_enter Try.func7, Try.ntmps7
  go_wp2_with fail
  refine bodyPost_ret (results_cell_row rfl _ _ (w.heap.size + 1 + 1) 24 _ (0, 0) _ rfl (by refine blk_alloc ?_ _; simpa using blk_new ((w.alloc _).alloc _) _) rfl rfl rfl) rfl ?_
  exact ⟨⟨w.heap.size + 1 + 1 + 1, rfl, by simpa using blk_new (((w.alloc _).alloc _).alloc _) _, by omega⟩, below_alloc (below_alloc (below_alloc (below_alloc (Below.refl _ _) _) _) _) _⟩
set_option maxRecDepth 100000 in
theorem fun_calls (x y z : S24) (A B C : Option Addr) (a b c : Nat) (w : World) :
    Calls Try.prog 5 #[tyV x A a, tyV y B b, tyV z C c] w fun e w' => (∃ g, e = .returned (.agg #[.int .i64 2, .string ⟨#[]⟩, .int .i64 0, .slice (some ⟨g, 0, none⟩) 3 3]) ∧ w'.heap[g]? = some (ob3 x y z A B C a b c) ∧ w.heap.size ≤ g) ∧ Below w.heap.size w w' := by
  go_enter Try.func5, Try.ntmps5
  go_wp2_with fail
  refine bodyPost_ret (results_cell_row rfl _ _ (w.heap.size + 1 + 1 + 1) 24 _ (0, 0) _ rfl (by refine blk_alloc ?_ _; simpa using blk_new (((w.alloc _).alloc _).alloc _) _) rfl rfl rfl) rfl ?_
  exact ⟨⟨w.heap.size + 1 + 1 + 1 + 1, rfl, by simpa using blk_new ((((w.alloc _).alloc _).alloc _).alloc _) _, by omega⟩, below_alloc (below_alloc (below_alloc (below_alloc (below_alloc (Below.refl _ _) _) _) _) _) _⟩
set_option maxRecDepth 100000 in
/-- The test of the law: function 9. -/
theorem equal_calls {w : World} {x : S24} {A B : Option Addr} {a b : Nat} (hx : k24.C w A x.f3.length x.f3) (hy : k24.C w B x.f3.length x.f3) :
    Calls Try.prog 9 #[tyV x A a, tyV x B b] w fun e w' => e = .returned (.bool true) ∧ Below w.heap.size w w' := by
  go_enter Try.func9, Try.ntmps9
  go_wp2_with fail
  refine (exact_same x _ _ _ _ _ (Kd.C_below hx (((Below.refl w.heap.size w).alloc (Nat.le_refl _) _).alloc (by simp) _)) (Kd.C_below hy (((Below.refl w.heap.size w).alloc (Nat.le_refl _) _).alloc (by simp) _))).mono ?_
  rintro e w1 ⟨rfl, hb1⟩
  go_wp2_with fail
  go_ret
  exact ⟨rfl, ((Below.refl w.heap.size w).alloc (Nat.le_refl _) _ |>.alloc (by simp) _ |>.trans (hb1.mono (by simp; omega)))⟩
/-- A block that lies in the world. -/
def InB (w : World) (B g : Nat) (o : Obj) : Prop := w.heap[g]? = some o ∧ B ≤ g
theorem blk_up {w w' : World} {g : Nat} {o : Obj} (h : w.heap[g]? = some o) (hb : Below w.heap.size w w') : w'.heap[g]? = some o := by
  have hl : g < w.heap.size := by
    rcases Nat.lt_or_ge g w.heap.size with h' | h'
    · exact h'
    · rw [Array.getElem?_eq_none h'] at h; cases h
  rw [hb.block g hl]; exact h
theorem InB.up {w w' : World} {B g : Nat} {o : Obj} (h : InB w B g o) (hb : Below w.heap.size w w') : InB w' B g o := ⟨blk_up h.1 hb, h.2⟩
theorem InB.far4 {w : World} {B g k : Nat} {o : Obj} {a b c d : Value} (h : InB w B g o) (hne : g ≠ k) : InB ((((w.setCell ⟨k, 0, none⟩ a).setCell ⟨k, 1, none⟩ b).setCell ⟨k, 2, none⟩ c).setCell ⟨k, 3, none⟩ d) B g o := ⟨put4_far h.1 hne _ _ _ _, h.2⟩
abbrev ob1 (a b c d : Value) : Obj := .cells #[a, b, c, d] 24 (0, 0)
abbrev ob0 : Obj := ob1 (.int .i64 0) (.string ⟨#[]⟩) (.int .i64 0) (.slice none 0 0)
abbrev obY (s : ByteArray) (g : Nat) : Obj := ob1 (.int .i64 1) (.string s) (.int .i64 0) (.slice (some ⟨g, 0, none⟩) 2 2)
abbrev obZ (s : ByteArray) (g : Nat) : Obj := ob1 (.int .i64 5) (.string s) (.int .i64 0) (.slice (some ⟨g, 0, none⟩) 2 2)
abbrev obV (n : Int) : Obj := ob1 (.int .i64 0) (.string ⟨#[]⟩) (.int .i64 n) (.slice none 0 0)
abbrev obX (g : Nat) : Obj := ob1 (.int .i64 2) (.string ⟨#[]⟩) (.int .i64 0) (.slice (some ⟨g, 0, none⟩) 3 3)
abbrev obT (x : S24) (A : Option Addr) (c : Nat) : Obj := ob1 (.int .i64 x.f0) (.string x.f1) (.int .i64 x.f2) (.slice A x.f3.length c)
theorem InB.put4 {w : World} {B g : Nat} {a b c d a' b' c' d' : Value} (h : InB w B g (ob1 a b c d)) : InB ((((w.setCell ⟨g, 0, none⟩ a').setCell ⟨g, 1, none⟩ b').setCell ⟨g, 2, none⟩ c').setCell ⟨g, 3, none⟩ d') B g (ob1 a' b' c' d') := ⟨Ty.put4 h.1 _ _ _ _, h.2⟩
theorem InB.ne2 {w : World} {B g k : Nat} {x y : S24} {A A' : Option Addr} {p q : Nat} {a b c d : Value} (h : InB w B g (ob2 x y A A' p q)) (h' : InB w B k (ob1 a b c d)) : g ≠ k := by
  rintro rfl
  have := h.1.symm.trans h'.1
  simp at this
end Go.Proofs.Ythblhnljnpjdmaa.Ty
