import Derived.Test.YtemdfhaceddmpaaPf
import Derived.Laws.EntriesVeiled
namespace Go.Proofs.Ytemdfhaceddmpaa.Tr
open Go.Shelf Go.RowKit Go.Proofs.Ytemdfhaceddmpaa.PPrinterTells Go.Proofs.YtemdfhaceddmpaaW.PrintWords Go.Proofs.YtemdfhaceddmpaaW.PrintLast Go.Proofs.YtemdfhaceddmpaaW.PrintMore
set_option linter.unusedVariables false
set_option linter.unusedSimpArgs false
set_option maxRecDepth 100000

theorem a_calls (k : Int) (w : World) : Calls Try.prog 26 #[.int .i64 k] w fun e w' => e = .returned (.func (.func 36) #[] #[.pointer (some ⟨w.heap.size, 0, none⟩)]) ∧ w' = w.alloc (.cells #[.int .i64 k] 3) := by
  go_enter Try.func26, Try.ntmps26
  go_wp2_with fail
  go_ret
  exact ⟨rfl, rfl⟩
theorem either_calls (n m : Nat) (c d : Array Value) (w : World) : Calls Try.prog 30 #[.func (.func n) #[] c, .func (.func m) #[] d] w fun e w' => e = .returned (.func (.func 38) #[] #[.pointer (some ⟨w.heap.size, 0, none⟩), .pointer (some ⟨w.heap.size + 1, 0, none⟩)]) ∧ w' = (w.alloc (.cells #[.func (.func n) #[] c] 39)).alloc (.cells #[.func (.func m) #[] d] 39) := by
  go_enter Try.func30, Try.ntmps30
  go_wp2_with fail
  go_ret
  exact ⟨rfl, rfl⟩
theorem many_calls (n : Nat) (c : Array Value) (k : Int) (w : World) : Calls Try.prog 27 #[.func (.func n) #[] c, .int .i64 k] w fun e w' => e = .returned (.agg #[.slice none 0 0, .slice none 0 0, .func (.func n) #[] c, .int .i64 k]) ∧ w' = w.alloc (.cells #[.slice none 0 0, .slice none 0 0, .func (.func n) #[] c, .int .i64 k] 44) := by
  go_enter Try.func27, Try.ntmps27
  go_wp2_with fail
  refine bodyPost_ret (results_cell_row rfl _ _ w.heap.size 44 _ (0, 0) _ rfl (blk_new w _) rfl rfl rfl) rfl ?_
  exact ⟨rfl, rfl⟩
theorem list_calls (A : Option Addr) (n c : Nat) (w : World) : Calls Try.prog 29 #[.slice A n c] w fun e w' => e = .returned (.agg #[.slice A n c, .slice none 0 0, .func (.func 37) #[] #[], .int .i64 0]) ∧ w' = w.alloc (.cells #[.slice A n c, .slice none 0 0, .func (.func 37) #[] #[], .int .i64 0] 44) := by
  go_enter Try.func29, Try.ntmps29
  go_wp2_with fail
  refine bodyPost_ret (results_cell_row rfl _ _ w.heap.size 44 _ (0, 0) _ rfl (blk_new w _) rfl rfl rfl) rfl ?_
  exact ⟨rfl, rfl⟩

theorem either_te (x : Int) (g1 g2 : Nat) (w : World) (h1 : w.cell? ⟨g1, 0, none⟩ = some (.func (.func 21) #[] #[])) (h2 : w.cell? ⟨g2, 0, none⟩ = some (.func (.func 15) #[] #[])) : Calls Try.prog 38 #[.int .i64 x, .pointer (some ⟨g1, 0, none⟩), .pointer (some ⟨g2, 0, none⟩)] w fun e w' => e = .returned (.bool (decide (x ∈ kinds 84) || decide (x ∈ kinds 69))) ∧ w' = w := by
  have HA := Go.Lib.hid (isType_calls x w)
  have HB := Go.Lib.hid (isExpr_calls x w)
  generalize decide (x ∈ kinds 84) = a at *
  generalize decide (x ∈ kinds 69) = b at *
  cases a
  all_goals
    go_enter Try.func38, Try.ntmps38
    go_wp2_with (first | (go_at_call 21; refine HA.out.mono ?_; rintro e w' ⟨rfl, rfl⟩) | (go_at_call 15; refine HB.out.mono ?_; rintro e w' ⟨rfl, rfl⟩))
    go_ret
    exact ⟨rfl, rfl⟩
theorem either_aa (x k1 k2 : Int) (g1 g2 g3 g4 : Nat) (w : World) (h1 : w.cell? ⟨g1, 0, none⟩ = some (.func (.func 36) #[] #[.pointer (some ⟨g3, 0, none⟩)])) (h2 : w.cell? ⟨g2, 0, none⟩ = some (.func (.func 36) #[] #[.pointer (some ⟨g4, 0, none⟩)])) (h3 : w.cell? ⟨g3, 0, none⟩ = some (.int .i64 k1)) (h4 : w.cell? ⟨g4, 0, none⟩ = some (.int .i64 k2)) :
    Calls Try.prog 38 #[.int .i64 x, .pointer (some ⟨g1, 0, none⟩), .pointer (some ⟨g2, 0, none⟩)] w fun e w' => e = .returned (.bool (decide (x = k1) || decide (x = k2))) ∧ w' = w := by
  have HA := Go.Lib.hid (a1_calls x k1 g3 w h3)
  have HB := Go.Lib.hid (a1_calls x k2 g4 w h4)
  generalize decide (x = k1) = a at *
  generalize decide (x = k2) = b at *
  cases a
  all_goals
    go_enter Try.func38, Try.ntmps38
    go_wp2_with (first | (go_at_call_of 36 (Value.int .i64 x); with_reducible refine HA.out.mono ?_; rintro e w' ⟨rfl, rfl⟩) | (go_at_call_of 36 (Value.int .i64 x); with_reducible refine HB.out.mono ?_; rintro e w' ⟨rfl, rfl⟩))
    go_ret
    exact ⟨rfl, rfl⟩
theorem FVal.te {W : World} {g1 g2 : Nat} (h1 : W.heap[g1]? = some (.cells #[.func (.func 21) #[] #[]] 39 (0, 0))) (h2 : W.heap[g2]? = some (.cells #[.func (.func 15) #[] #[]] 39 (0, 0))) : FVal (.func (.func 38) #[] #[.pointer (some ⟨g1, 0, Option.none⟩), .pointer (some ⟨g2, 0, Option.none⟩)]) 88 W :=
  ⟨38, _, _, rfl, Try.func38, by kernel_rfl, by kernel_rfl, fun W' hW x => by
    have h := either_te x g1 g2 W' ((blk_cell (blk_below h1 hW) 0).trans rfl) ((blk_cell (blk_below h2 hW) 0).trans rfl)
    have e : decide (x ∈ kinds 88) = (decide (x ∈ kinds 84) || decide (x ∈ kinds 69)) := by
      rw [show kinds 88 = kinds 84 ++ kinds 69 by decide, ← Bool.decide_or]
      exact decide_eq_decide.2 List.mem_append
    rw [e]
    exact h⟩
theorem FVal.aa {W : World} {g1 g2 g3 g4 : Nat} {k1 k2 c : Int} (h1 : W.heap[g1]? = some (.cells #[.func (.func 36) #[] #[.pointer (some ⟨g3, 0, Option.none⟩)]] 39 (0, 0))) (h2 : W.heap[g2]? = some (.cells #[.func (.func 36) #[] #[.pointer (some ⟨g4, 0, Option.none⟩)]] 39 (0, 0)))
    (h3 : W.heap[g3]? = some (.cells #[.int .i64 k1] 3 (0, 0))) (h4 : W.heap[g4]? = some (.cells #[.int .i64 k2] 3 (0, 0))) (hc : kinds c = [k1, k2]) : FVal (.func (.func 38) #[] #[.pointer (some ⟨g1, 0, Option.none⟩), .pointer (some ⟨g2, 0, Option.none⟩)]) c W :=
  ⟨38, _, _, rfl, Try.func38, by kernel_rfl, by kernel_rfl, fun W' hW x => by
    have h := either_aa x k1 k2 g1 g2 g3 g4 W' ((blk_cell (blk_below h1 hW) 0).trans rfl) ((blk_cell (blk_below h2 hW) 0).trans rfl) ((blk_cell (blk_below h3 hW) 0).trans rfl) ((blk_cell (blk_below h4 hW) 0).trans rfl)
    have e : decide (x ∈ kinds c) = (decide (x = k1) || decide (x = k2)) := by
      rw [hc, ← Bool.decide_or]
      exact decide_eq_decide.2 (by simp)
    rw [e]
    exact h⟩
/-- A row of function values for these letters. -/
def FRow (W : World) (A : Option Addr) (cs : List Int) : Prop := cs ≠ [] → ∃ g, A = some ⟨g, 0, none⟩ ∧ ∀ i c, cs[i]? = some c → ∃ f, W.cell? ⟨g, i, none⟩ = some f ∧ FVal f c W
theorem FRow.lift {W W' : World} {A : Option Addr} {cs : List Int} (h : FRow W A cs) (hb : Below W.heap.size W W') : FRow W' A cs := fun hn => by
  obtain ⟨g, e, h2⟩ := h hn
  exact ⟨g, e, fun i c hi => by
    obtain ⟨f, h3, h4⟩ := h2 i c hi
    exact ⟨f, pw_cell_below hb h3, h4.lift hb⟩⟩
theorem FRow.nil (W : World) (A : Option Addr) : FRow W A [] := fun h => absurd rfl h
theorem FRow.one {W : World} {g : Nat} {f : Value} {c : Int} (hb : W.heap[g]? = some (.cells #[f] 39 (0, 0))) (h : FVal f c W) : FRow W (some ⟨g, 0, none⟩) [c] := fun _ => ⟨g, rfl, fun i d hi => by
  match i, hi with
  | 0, hi => obtain rfl : c = d := by simpa using hi
             exact ⟨f, (blk_cell hb 0).trans rfl, h⟩⟩
theorem FRow.two {W : World} {g : Nat} {f1 f2 : Value} {c1 c2 : Int} (hb : W.heap[g]? = some (.cells #[f1, f2] 39 (0, 0))) (h1 : FVal f1 c1 W) (h2 : FVal f2 c2 W) : FRow W (some ⟨g, 0, none⟩) [c1, c2] := fun _ => ⟨g, rfl, fun i d hi => by
  match i, hi with
  | 0, hi => obtain rfl : c1 = d := by simpa using hi
             exact ⟨f1, (blk_cell hb 0).trans rfl, h1⟩
  | 1, hi => obtain rfl : c2 = d := by simpa using hi
             exact ⟨f2, (blk_cell hb 1).trans rfl, h2⟩⟩
theorem FRow.three {W : World} {g : Nat} {f1 f2 f3 : Value} {c1 c2 c3 : Int} (hb : W.heap[g]? = some (.cells #[f1, f2, f3] 39 (0, 0))) (h1 : FVal f1 c1 W) (h2 : FVal f2 c2 W) (h3 : FVal f3 c3 W) : FRow W (some ⟨g, 0, none⟩) [c1, c2, c3] := fun _ => ⟨g, rfl, fun i d hi => by
  match i, hi with
  | 0, hi => obtain rfl : c1 = d := by simpa using hi
             exact ⟨f1, (blk_cell hb 0).trans rfl, h1⟩
  | 1, hi => obtain rfl : c2 = d := by simpa using hi
             exact ⟨f2, (blk_cell hb 1).trans rfl, h2⟩
  | 2, hi => obtain rfl : c3 = d := by simpa using hi
             exact ⟨f3, (blk_cell hb 2).trans rfl, h3⟩⟩
theorem blk_newE {W : World} {o : Obj} {n : Nat} (h : n = W.heap.size) : (W.alloc o).heap[n]? = some o := h ▸ blk_new W o
/-- What shapeOf answers. -/
def ShpP (fi la : List Int) (be le : Int) (w : World) (e : Ending) (w' : World) : Prop := ∃ A1 c1 A2 c2 f, e = .returned (.agg #[.slice A1 fi.length c1, .slice A2 la.length c2, f, .int .i64 le]) ∧ FRow w' A1 fi ∧ FRow w' A2 la ∧ FVal f be w' ∧ Below w.heap.size w w'
/-- What groups answers. -/
def GrpP (cs ms : List Int) (w : World) (e : Ending) (w' : World) : Prop := ∃ A1 c1 g c2, e = .returned (.tuple #[.slice A1 cs.length c1, .slice (some ⟨g, 0, none⟩) ms.length c2]) ∧ (A1.isSome = true) ∧ FRow w' A1 cs ∧ IA w' g ms ∧ Below w.heap.size w w'

theorem shape_0 (w : World) : Calls Try.prog 18 #[.int .i64 0] w (ShpP [] [] 68 0 w) := by
  go_enter Try.func18, Try.ntmps18
  go_wp2_with (first | (go_at_call 26; refine (a_calls _ _).mono ?_; rintro e w' ⟨rfl, rfl⟩) | (go_at_call 27; refine (many_calls _ _ _ _).mono ?_; rintro e w' ⟨rfl, rfl⟩) | (go_at_call 29; refine (list_calls _ _ _ _).mono ?_; rintro e w' ⟨rfl, rfl⟩) | (go_at_call 30; refine (either_calls _ _ _ _ _).mono ?_; rintro e w' ⟨rfl, rfl⟩))
  refine bodyPost_ret (results_cell_row rfl _ _ w.heap.size 44 _ (0, 0) _ rfl (by repeat' first | (refine blk_newE ?_; simp; done) | refine blk_alloc ?_ _) rfl rfl rfl) rfl ?_
  exact ⟨_, _, _, _, _, rfl, FRow.nil _ _, FRow.nil _ _, (FVal.decl _), (by repeat' first | exact Below.refl _ _ | refine below_alloc ?_ _)⟩
theorem shape_1 (w : World) : Calls Try.prog 18 #[.int .i64 1] w (ShpP [] [] 110 0 w) := by
  go_enter Try.func18, Try.ntmps18
  go_wp2_with (first | (go_at_call 26; refine (a_calls _ _).mono ?_; rintro e w' ⟨rfl, rfl⟩) | (go_at_call 27; refine (many_calls _ _ _ _).mono ?_; rintro e w' ⟨rfl, rfl⟩) | (go_at_call 29; refine (list_calls _ _ _ _).mono ?_; rintro e w' ⟨rfl, rfl⟩) | (go_at_call 30; refine (either_calls _ _ _ _ _).mono ?_; rintro e w' ⟨rfl, rfl⟩))
  refine bodyPost_ret (results_cell_row rfl _ _ w.heap.size 44 _ (0, 0) _ rfl (by repeat' first | (refine blk_newE ?_; simp; done) | refine blk_alloc ?_ _) rfl rfl rfl) rfl ?_
  exact ⟨_, _, _, _, _, rfl, FRow.nil _ _, FRow.nil _ _, (FVal.a (by repeat' first | (refine blk_newE ?_; simp; done) | refine blk_alloc ?_ _) (by decide)), (by repeat' first | exact Below.refl _ _ | refine below_alloc ?_ _)⟩
theorem shape_2 (w : World) : Calls Try.prog 18 #[.int .i64 2] w (ShpP [] [] 110 0 w) := by
  go_enter Try.func18, Try.ntmps18
  go_wp2_with (first | (go_at_call 26; refine (a_calls _ _).mono ?_; rintro e w' ⟨rfl, rfl⟩) | (go_at_call 27; refine (many_calls _ _ _ _).mono ?_; rintro e w' ⟨rfl, rfl⟩) | (go_at_call 29; refine (list_calls _ _ _ _).mono ?_; rintro e w' ⟨rfl, rfl⟩) | (go_at_call 30; refine (either_calls _ _ _ _ _).mono ?_; rintro e w' ⟨rfl, rfl⟩))
  refine bodyPost_ret (results_cell_row rfl _ _ w.heap.size 44 _ (0, 0) _ rfl (by repeat' first | (refine blk_newE ?_; simp; done) | refine blk_alloc ?_ _) rfl rfl rfl) rfl ?_
  exact ⟨_, _, _, _, _, rfl, FRow.nil _ _, FRow.nil _ _, (FVal.a (by repeat' first | (refine blk_newE ?_; simp; done) | refine blk_alloc ?_ _) (by decide)), (by repeat' first | exact Below.refl _ _ | refine below_alloc ?_ _)⟩
theorem shape_3 (w : World) : Calls Try.prog 18 #[.int .i64 3] w (ShpP [] [] 0 0 w) := by
  go_enter Try.func18, Try.ntmps18
  go_wp2_with (first | (go_at_call 26; refine (a_calls _ _).mono ?_; rintro e w' ⟨rfl, rfl⟩) | (go_at_call 27; refine (many_calls _ _ _ _).mono ?_; rintro e w' ⟨rfl, rfl⟩) | (go_at_call 29; refine (list_calls _ _ _ _).mono ?_; rintro e w' ⟨rfl, rfl⟩) | (go_at_call 30; refine (either_calls _ _ _ _ _).mono ?_; rintro e w' ⟨rfl, rfl⟩))
  refine bodyPost_ret (results_cell_row rfl _ _ w.heap.size 44 _ (0, 0) _ rfl (by repeat' first | (refine blk_newE ?_; simp; done) | refine blk_alloc ?_ _) rfl rfl rfl) rfl ?_
  exact ⟨_, _, _, _, _, rfl, FRow.nil _ _, FRow.nil _ _, (FVal.none _), (by repeat' first | exact Below.refl _ _ | refine below_alloc ?_ _)⟩
theorem shape_4 (w : World) : Calls Try.prog 18 #[.int .i64 4] w (ShpP [] [] 0 0 w) := by
  go_enter Try.func18, Try.ntmps18
  go_wp2_with (first | (go_at_call 26; refine (a_calls _ _).mono ?_; rintro e w' ⟨rfl, rfl⟩) | (go_at_call 27; refine (many_calls _ _ _ _).mono ?_; rintro e w' ⟨rfl, rfl⟩) | (go_at_call 29; refine (list_calls _ _ _ _).mono ?_; rintro e w' ⟨rfl, rfl⟩) | (go_at_call 30; refine (either_calls _ _ _ _ _).mono ?_; rintro e w' ⟨rfl, rfl⟩))
  refine bodyPost_ret (results_cell_row rfl _ _ w.heap.size 44 _ (0, 0) _ rfl (by repeat' first | (refine blk_newE ?_; simp; done) | refine blk_alloc ?_ _) rfl rfl rfl) rfl ?_
  exact ⟨_, _, _, _, _, rfl, FRow.nil _ _, FRow.nil _ _, (FVal.none _), (by repeat' first | exact Below.refl _ _ | refine below_alloc ?_ _)⟩
theorem shape_6 (w : World) : Calls Try.prog 18 #[.int .i64 6] w (ShpP [] [] 84 0 w) := by
  go_enter Try.func18, Try.ntmps18
  go_wp2_with (first | (go_at_call 26; refine (a_calls _ _).mono ?_; rintro e w' ⟨rfl, rfl⟩) | (go_at_call 27; refine (many_calls _ _ _ _).mono ?_; rintro e w' ⟨rfl, rfl⟩) | (go_at_call 29; refine (list_calls _ _ _ _).mono ?_; rintro e w' ⟨rfl, rfl⟩) | (go_at_call 30; refine (either_calls _ _ _ _ _).mono ?_; rintro e w' ⟨rfl, rfl⟩))
  refine bodyPost_ret (results_cell_row rfl _ _ w.heap.size 44 _ (0, 0) _ rfl (by repeat' first | (refine blk_newE ?_; simp; done) | refine blk_alloc ?_ _) rfl rfl rfl) rfl ?_
  exact ⟨_, _, _, _, _, rfl, FRow.nil _ _, FRow.nil _ _, (FVal.type _), (by repeat' first | exact Below.refl _ _ | refine below_alloc ?_ _)⟩
theorem shape_7 (w : World) : Calls Try.prog 18 #[.int .i64 7] w (ShpP [] [] 111 0 w) := by
  go_enter Try.func18, Try.ntmps18
  go_wp2_with (first | (go_at_call 26; refine (a_calls _ _).mono ?_; rintro e w' ⟨rfl, rfl⟩) | (go_at_call 27; refine (many_calls _ _ _ _).mono ?_; rintro e w' ⟨rfl, rfl⟩) | (go_at_call 29; refine (list_calls _ _ _ _).mono ?_; rintro e w' ⟨rfl, rfl⟩) | (go_at_call 30; refine (either_calls _ _ _ _ _).mono ?_; rintro e w' ⟨rfl, rfl⟩))
  refine bodyPost_ret (results_cell_row rfl _ _ w.heap.size 44 _ (0, 0) _ rfl (by repeat' first | (refine blk_newE ?_; simp; done) | refine blk_alloc ?_ _) rfl rfl rfl) rfl ?_
  exact ⟨_, _, _, _, _, rfl, FRow.nil _ _, FRow.nil _ _, (FVal.a (by repeat' first | (refine blk_newE ?_; simp; done) | refine blk_alloc ?_ _) (by decide)), (by repeat' first | exact Below.refl _ _ | refine below_alloc ?_ _)⟩
theorem shape_8 (w : World) : Calls Try.prog 18 #[.int .i64 8] w (ShpP [84, 84] [] 0 0 w) := by
  go_enter Try.func18, Try.ntmps18
  go_wp2_with (first | (go_at_call 26; refine (a_calls _ _).mono ?_; rintro e w' ⟨rfl, rfl⟩) | (go_at_call 27; refine (many_calls _ _ _ _).mono ?_; rintro e w' ⟨rfl, rfl⟩) | (go_at_call 29; refine (list_calls _ _ _ _).mono ?_; rintro e w' ⟨rfl, rfl⟩) | (go_at_call 30; refine (either_calls _ _ _ _ _).mono ?_; rintro e w' ⟨rfl, rfl⟩))
  refine bodyPost_ret (results_cell_row rfl _ _ w.heap.size 44 _ (0, 0) _ rfl (by repeat' first | (refine blk_newE ?_; simp; done) | refine blk_alloc ?_ _) rfl rfl rfl) rfl ?_
  exact ⟨_, _, _, _, _, rfl, FRow.two (by repeat' first | (refine blk_newE ?_; simp; done) | refine blk_alloc ?_ _) (FVal.type _) (FVal.type _), FRow.nil _ _, (FVal.none _), (by repeat' first | exact Below.refl _ _ | refine below_alloc ?_ _)⟩
theorem shape_11 (w : World) : Calls Try.prog 18 #[.int .i64 11] w (ShpP [118] [] 0 0 w) := by
  go_enter Try.func18, Try.ntmps18
  go_wp2_with (first | (go_at_call 26; refine (a_calls _ _).mono ?_; rintro e w' ⟨rfl, rfl⟩) | (go_at_call 27; refine (many_calls _ _ _ _).mono ?_; rintro e w' ⟨rfl, rfl⟩) | (go_at_call 29; refine (list_calls _ _ _ _).mono ?_; rintro e w' ⟨rfl, rfl⟩) | (go_at_call 30; refine (either_calls _ _ _ _ _).mono ?_; rintro e w' ⟨rfl, rfl⟩))
  refine bodyPost_ret (results_cell_row rfl _ _ w.heap.size 44 _ (0, 0) _ rfl (by repeat' first | (refine blk_newE ?_; simp; done) | refine blk_alloc ?_ _) rfl rfl rfl) rfl ?_
  exact ⟨_, _, _, _, _, rfl, FRow.one (by repeat' first | (refine blk_newE ?_; simp; done) | refine blk_alloc ?_ _) (FVal.a (by repeat' first | (refine blk_newE ?_; simp; done) | refine blk_alloc ?_ _) (by decide)), FRow.nil _ _, (FVal.none _), (by repeat' first | exact Below.refl _ _ | refine below_alloc ?_ _)⟩
theorem shape_12 (w : World) : Calls Try.prog 18 #[.int .i64 12] w (ShpP [] [84] 113 0 w) := by
  go_enter Try.func18, Try.ntmps18
  go_wp2_with (first | (go_at_call 26; refine (a_calls _ _).mono ?_; rintro e w' ⟨rfl, rfl⟩) | (go_at_call 27; refine (many_calls _ _ _ _).mono ?_; rintro e w' ⟨rfl, rfl⟩) | (go_at_call 29; refine (list_calls _ _ _ _).mono ?_; rintro e w' ⟨rfl, rfl⟩) | (go_at_call 30; refine (either_calls _ _ _ _ _).mono ?_; rintro e w' ⟨rfl, rfl⟩))
  refine bodyPost_ret (results_cell_row rfl _ _ w.heap.size 44 _ (0, 0) _ rfl (by repeat' first | (refine blk_newE ?_; simp; done) | refine blk_alloc ?_ _) rfl rfl rfl) rfl ?_
  exact ⟨_, _, _, _, _, rfl, FRow.nil _ _, FRow.one (by repeat' first | (refine blk_newE ?_; simp; done) | refine blk_alloc ?_ _) (FVal.type _), (FVal.a (by repeat' first | (refine blk_newE ?_; simp; done) | refine blk_alloc ?_ _) (by decide)), (by repeat' first | exact Below.refl _ _ | refine below_alloc ?_ _)⟩
theorem shape_13 (w : World) : Calls Try.prog 18 #[.int .i64 13] w (ShpP [69] [] 0 0 w) := by
  go_enter Try.func18, Try.ntmps18
  go_wp2_with (first | (go_at_call 26; refine (a_calls _ _).mono ?_; rintro e w' ⟨rfl, rfl⟩) | (go_at_call 27; refine (many_calls _ _ _ _).mono ?_; rintro e w' ⟨rfl, rfl⟩) | (go_at_call 29; refine (list_calls _ _ _ _).mono ?_; rintro e w' ⟨rfl, rfl⟩) | (go_at_call 30; refine (either_calls _ _ _ _ _).mono ?_; rintro e w' ⟨rfl, rfl⟩))
  refine bodyPost_ret (results_cell_row rfl _ _ w.heap.size 44 _ (0, 0) _ rfl (by repeat' first | (refine blk_newE ?_; simp; done) | refine blk_alloc ?_ _) rfl rfl rfl) rfl ?_
  exact ⟨_, _, _, _, _, rfl, FRow.one (by repeat' first | (refine blk_newE ?_; simp; done) | refine blk_alloc ?_ _) (FVal.expr _), FRow.nil _ _, (FVal.none _), (by repeat' first | exact Below.refl _ _ | refine below_alloc ?_ _)⟩
theorem shape_14 (w : World) : Calls Try.prog 18 #[.int .i64 14] w (ShpP [] [] 0 0 w) := by
  go_enter Try.func18, Try.ntmps18
  go_wp2_with (first | (go_at_call 26; refine (a_calls _ _).mono ?_; rintro e w' ⟨rfl, rfl⟩) | (go_at_call 27; refine (many_calls _ _ _ _).mono ?_; rintro e w' ⟨rfl, rfl⟩) | (go_at_call 29; refine (list_calls _ _ _ _).mono ?_; rintro e w' ⟨rfl, rfl⟩) | (go_at_call 30; refine (either_calls _ _ _ _ _).mono ?_; rintro e w' ⟨rfl, rfl⟩))
  refine bodyPost_ret (results_cell_row rfl _ _ w.heap.size 44 _ (0, 0) _ rfl (by repeat' first | (refine blk_newE ?_; simp; done) | refine blk_alloc ?_ _) rfl rfl rfl) rfl ?_
  exact ⟨_, _, _, _, _, rfl, FRow.nil _ _, FRow.nil _ _, (FVal.none _), (by repeat' first | exact Below.refl _ _ | refine below_alloc ?_ _)⟩
theorem shape_15 (w : World) : Calls Try.prog 18 #[.int .i64 15] w (ShpP [] [] 84 0 w) := by
  go_enter Try.func18, Try.ntmps18
  go_wp2_with (first | (go_at_call 26; refine (a_calls _ _).mono ?_; rintro e w' ⟨rfl, rfl⟩) | (go_at_call 27; refine (many_calls _ _ _ _).mono ?_; rintro e w' ⟨rfl, rfl⟩) | (go_at_call 29; refine (list_calls _ _ _ _).mono ?_; rintro e w' ⟨rfl, rfl⟩) | (go_at_call 30; refine (either_calls _ _ _ _ _).mono ?_; rintro e w' ⟨rfl, rfl⟩))
  refine bodyPost_ret (results_cell_row rfl _ _ w.heap.size 44 _ (0, 0) _ rfl (by repeat' first | (refine blk_newE ?_; simp; done) | refine blk_alloc ?_ _) rfl rfl rfl) rfl ?_
  exact ⟨_, _, _, _, _, rfl, FRow.nil _ _, FRow.nil _ _, (FVal.type _), (by repeat' first | exact Below.refl _ _ | refine below_alloc ?_ _)⟩
theorem shape_16 (w : World) : Calls Try.prog 18 #[.int .i64 16] w (ShpP [84, 114, 84] [] 0 0 w) := by
  go_enter Try.func18, Try.ntmps18
  go_wp2_with (first | (go_at_call 26; refine (a_calls _ _).mono ?_; rintro e w' ⟨rfl, rfl⟩) | (go_at_call 27; refine (many_calls _ _ _ _).mono ?_; rintro e w' ⟨rfl, rfl⟩) | (go_at_call 29; refine (list_calls _ _ _ _).mono ?_; rintro e w' ⟨rfl, rfl⟩) | (go_at_call 30; refine (either_calls _ _ _ _ _).mono ?_; rintro e w' ⟨rfl, rfl⟩))
  refine bodyPost_ret (results_cell_row rfl _ _ w.heap.size 44 _ (0, 0) _ rfl (by repeat' first | (refine blk_newE ?_; simp; done) | refine blk_alloc ?_ _) rfl rfl rfl) rfl ?_
  exact ⟨_, _, _, _, _, rfl, FRow.three (by repeat' first | (refine blk_newE ?_; simp; done) | refine blk_alloc ?_ _) (FVal.type _) (FVal.a (by repeat' first | (refine blk_newE ?_; simp; done) | refine blk_alloc ?_ _) (by decide)) (FVal.type _), FRow.nil _ _, (FVal.none _), (by repeat' first | exact Below.refl _ _ | refine below_alloc ?_ _)⟩
theorem shape_19 (w : World) : Calls Try.prog 18 #[.int .i64 19] w (ShpP [88] [] 0 0 w) := by
  go_enter Try.func18, Try.ntmps18
  go_wp2_with (first | (go_at_call 26; refine (a_calls _ _).mono ?_; rintro e w' ⟨rfl, rfl⟩) | (go_at_call 27; refine (many_calls _ _ _ _).mono ?_; rintro e w' ⟨rfl, rfl⟩) | (go_at_call 29; refine (list_calls _ _ _ _).mono ?_; rintro e w' ⟨rfl, rfl⟩) | (go_at_call 30; refine (either_calls _ _ _ _ _).mono ?_; rintro e w' ⟨rfl, rfl⟩))
  refine bodyPost_ret (results_cell_row rfl _ _ w.heap.size 44 _ (0, 0) _ rfl (by repeat' first | (refine blk_newE ?_; simp; done) | refine blk_alloc ?_ _) rfl rfl rfl) rfl ?_
  exact ⟨_, _, _, _, _, rfl, FRow.one (by repeat' first | (refine blk_newE ?_; simp; done) | refine blk_alloc ?_ _) (FVal.te (by repeat' first | (refine blk_newE ?_; simp; done) | refine blk_alloc ?_ _) (by repeat' first | (refine blk_newE ?_; simp; done) | refine blk_alloc ?_ _)), FRow.nil _ _, (FVal.none _), (by repeat' first | exact Below.refl _ _ | refine below_alloc ?_ _)⟩
theorem shape_20 (w : World) : Calls Try.prog 18 #[.int .i64 20] w (ShpP [] [] 0 0 w) := by
  go_enter Try.func18, Try.ntmps18
  go_wp2_with (first | (go_at_call 26; refine (a_calls _ _).mono ?_; rintro e w' ⟨rfl, rfl⟩) | (go_at_call 27; refine (many_calls _ _ _ _).mono ?_; rintro e w' ⟨rfl, rfl⟩) | (go_at_call 29; refine (list_calls _ _ _ _).mono ?_; rintro e w' ⟨rfl, rfl⟩) | (go_at_call 30; refine (either_calls _ _ _ _ _).mono ?_; rintro e w' ⟨rfl, rfl⟩))
  refine bodyPost_ret (results_cell_row rfl _ _ w.heap.size 44 _ (0, 0) _ rfl (by repeat' first | (refine blk_newE ?_; simp; done) | refine blk_alloc ?_ _) rfl rfl rfl) rfl ?_
  exact ⟨_, _, _, _, _, rfl, FRow.nil _ _, FRow.nil _ _, (FVal.none _), (by repeat' first | exact Below.refl _ _ | refine below_alloc ?_ _)⟩
theorem shape_21 (w : World) : Calls Try.prog 18 #[.int .i64 21] w (ShpP [] [] 0 0 w) := by
  go_enter Try.func18, Try.ntmps18
  go_wp2_with (first | (go_at_call 26; refine (a_calls _ _).mono ?_; rintro e w' ⟨rfl, rfl⟩) | (go_at_call 27; refine (many_calls _ _ _ _).mono ?_; rintro e w' ⟨rfl, rfl⟩) | (go_at_call 29; refine (list_calls _ _ _ _).mono ?_; rintro e w' ⟨rfl, rfl⟩) | (go_at_call 30; refine (either_calls _ _ _ _ _).mono ?_; rintro e w' ⟨rfl, rfl⟩))
  refine bodyPost_ret (results_cell_row rfl _ _ w.heap.size 44 _ (0, 0) _ rfl (by repeat' first | (refine blk_newE ?_; simp; done) | refine blk_alloc ?_ _) rfl rfl rfl) rfl ?_
  exact ⟨_, _, _, _, _, rfl, FRow.nil _ _, FRow.nil _ _, (FVal.none _), (by repeat' first | exact Below.refl _ _ | refine below_alloc ?_ _)⟩
theorem shape_22 (w : World) : Calls Try.prog 18 #[.int .i64 22] w (ShpP [] [69] 86 1 w) := by
  go_enter Try.func18, Try.ntmps18
  go_wp2_with (first | (go_at_call 26; refine (a_calls _ _).mono ?_; rintro e w' ⟨rfl, rfl⟩) | (go_at_call 27; refine (many_calls _ _ _ _).mono ?_; rintro e w' ⟨rfl, rfl⟩) | (go_at_call 29; refine (list_calls _ _ _ _).mono ?_; rintro e w' ⟨rfl, rfl⟩) | (go_at_call 30; refine (either_calls _ _ _ _ _).mono ?_; rintro e w' ⟨rfl, rfl⟩))
  refine bodyPost_ret (results_cell_row rfl _ _ w.heap.size 44 _ (0, 0) _ rfl (by repeat' first | (refine blk_newE ?_; simp; done) | refine blk_alloc ?_ _) rfl rfl rfl) rfl ?_
  exact ⟨_, _, _, _, _, rfl, FRow.nil _ _, FRow.one (by repeat' first | (refine blk_newE ?_; simp; done) | refine blk_alloc ?_ _) (FVal.expr _), (FVal.param _), (by repeat' first | exact Below.refl _ _ | refine below_alloc ?_ _)⟩
theorem shape_23 (w : World) : Calls Try.prog 18 #[.int .i64 23] w (ShpP [69, 69] [] 0 0 w) := by
  go_enter Try.func18, Try.ntmps18
  go_wp2_with (first | (go_at_call 26; refine (a_calls _ _).mono ?_; rintro e w' ⟨rfl, rfl⟩) | (go_at_call 27; refine (many_calls _ _ _ _).mono ?_; rintro e w' ⟨rfl, rfl⟩) | (go_at_call 29; refine (list_calls _ _ _ _).mono ?_; rintro e w' ⟨rfl, rfl⟩) | (go_at_call 30; refine (either_calls _ _ _ _ _).mono ?_; rintro e w' ⟨rfl, rfl⟩))
  refine bodyPost_ret (results_cell_row rfl _ _ w.heap.size 44 _ (0, 0) _ rfl (by repeat' first | (refine blk_newE ?_; simp; done) | refine blk_alloc ?_ _) rfl rfl rfl) rfl ?_
  exact ⟨_, _, _, _, _, rfl, FRow.two (by repeat' first | (refine blk_newE ?_; simp; done) | refine blk_alloc ?_ _) (FVal.expr _) (FVal.expr _), FRow.nil _ _, (FVal.none _), (by repeat' first | exact Below.refl _ _ | refine below_alloc ?_ _)⟩
theorem shape_25 (w : World) : Calls Try.prog 18 #[.int .i64 25] w (ShpP [] [69] 98 0 w) := by
  go_enter Try.func18, Try.ntmps18
  go_wp2_with (first | (go_at_call 26; refine (a_calls _ _).mono ?_; rintro e w' ⟨rfl, rfl⟩) | (go_at_call 27; refine (many_calls _ _ _ _).mono ?_; rintro e w' ⟨rfl, rfl⟩) | (go_at_call 29; refine (list_calls _ _ _ _).mono ?_; rintro e w' ⟨rfl, rfl⟩) | (go_at_call 30; refine (either_calls _ _ _ _ _).mono ?_; rintro e w' ⟨rfl, rfl⟩))
  refine bodyPost_ret (results_cell_row rfl _ _ w.heap.size 44 _ (0, 0) _ rfl (by repeat' first | (refine blk_newE ?_; simp; done) | refine blk_alloc ?_ _) rfl rfl rfl) rfl ?_
  exact ⟨_, _, _, _, _, rfl, FRow.nil _ _, FRow.one (by repeat' first | (refine blk_newE ?_; simp; done) | refine blk_alloc ?_ _) (FVal.expr _), (FVal.aa (by repeat' first | (refine blk_newE ?_; simp; done) | refine blk_alloc ?_ _) (by repeat' first | (refine blk_newE ?_; simp; done) | refine blk_alloc ?_ _) (by repeat' first | (refine blk_newE ?_; simp; done) | refine blk_alloc ?_ _) (by repeat' first | (refine blk_newE ?_; simp; done) | refine blk_alloc ?_ _) (by decide)), (by repeat' first | exact Below.refl _ _ | refine below_alloc ?_ _)⟩
theorem shape_26 (w : World) : Calls Try.prog 18 #[.int .i64 26] w (ShpP [69, 69, 69] [] 0 0 w) := by
  go_enter Try.func18, Try.ntmps18
  go_wp2_with (first | (go_at_call 26; refine (a_calls _ _).mono ?_; rintro e w' ⟨rfl, rfl⟩) | (go_at_call 27; refine (many_calls _ _ _ _).mono ?_; rintro e w' ⟨rfl, rfl⟩) | (go_at_call 29; refine (list_calls _ _ _ _).mono ?_; rintro e w' ⟨rfl, rfl⟩) | (go_at_call 30; refine (either_calls _ _ _ _ _).mono ?_; rintro e w' ⟨rfl, rfl⟩))
  refine bodyPost_ret (results_cell_row rfl _ _ w.heap.size 44 _ (0, 0) _ rfl (by repeat' first | (refine blk_newE ?_; simp; done) | refine blk_alloc ?_ _) rfl rfl rfl) rfl ?_
  exact ⟨_, _, _, _, _, rfl, FRow.three (by repeat' first | (refine blk_newE ?_; simp; done) | refine blk_alloc ?_ _) (FVal.expr _) (FVal.expr _) (FVal.expr _), FRow.nil _ _, (FVal.none _), (by repeat' first | exact Below.refl _ _ | refine below_alloc ?_ _)⟩
theorem shape_27 (w : World) : Calls Try.prog 18 #[.int .i64 27] w (ShpP [69] [] 97 0 w) := by
  go_enter Try.func18, Try.ntmps18
  go_wp2_with (first | (go_at_call 26; refine (a_calls _ _).mono ?_; rintro e w' ⟨rfl, rfl⟩) | (go_at_call 27; refine (many_calls _ _ _ _).mono ?_; rintro e w' ⟨rfl, rfl⟩) | (go_at_call 29; refine (list_calls _ _ _ _).mono ?_; rintro e w' ⟨rfl, rfl⟩) | (go_at_call 30; refine (either_calls _ _ _ _ _).mono ?_; rintro e w' ⟨rfl, rfl⟩))
  refine bodyPost_ret (results_cell_row rfl _ _ w.heap.size 44 _ (0, 0) _ rfl (by repeat' first | (refine blk_newE ?_; simp; done) | refine blk_alloc ?_ _) rfl rfl rfl) rfl ?_
  exact ⟨_, _, _, _, _, rfl, FRow.one (by repeat' first | (refine blk_newE ?_; simp; done) | refine blk_alloc ?_ _) (FVal.expr _), FRow.nil _ _, (FVal.a (by repeat' first | (refine blk_newE ?_; simp; done) | refine blk_alloc ?_ _) (by decide)), (by repeat' first | exact Below.refl _ _ | refine below_alloc ?_ _)⟩
theorem shape_28 (w : World) : Calls Try.prog 18 #[.int .i64 28] w (ShpP [80, 69] [] 0 0 w) := by
  go_enter Try.func18, Try.ntmps18
  go_wp2_with (first | (go_at_call 26; refine (a_calls _ _).mono ?_; rintro e w' ⟨rfl, rfl⟩) | (go_at_call 27; refine (many_calls _ _ _ _).mono ?_; rintro e w' ⟨rfl, rfl⟩) | (go_at_call 29; refine (list_calls _ _ _ _).mono ?_; rintro e w' ⟨rfl, rfl⟩) | (go_at_call 30; refine (either_calls _ _ _ _ _).mono ?_; rintro e w' ⟨rfl, rfl⟩))
  refine bodyPost_ret (results_cell_row rfl _ _ w.heap.size 44 _ (0, 0) _ rfl (by repeat' first | (refine blk_newE ?_; simp; done) | refine blk_alloc ?_ _) rfl rfl rfl) rfl ?_
  exact ⟨_, _, _, _, _, rfl, FRow.two (by repeat' first | (refine blk_newE ?_; simp; done) | refine blk_alloc ?_ _) (FVal.pat _) (FVal.expr _), FRow.nil _ _, (FVal.none _), (by repeat' first | exact Below.refl _ _ | refine below_alloc ?_ _)⟩
theorem shape_29 (w : World) : Calls Try.prog 18 #[.int .i64 29] w (ShpP [] [] 102 0 w) := by
  go_enter Try.func18, Try.ntmps18
  go_wp2_with (first | (go_at_call 26; refine (a_calls _ _).mono ?_; rintro e w' ⟨rfl, rfl⟩) | (go_at_call 27; refine (many_calls _ _ _ _).mono ?_; rintro e w' ⟨rfl, rfl⟩) | (go_at_call 29; refine (list_calls _ _ _ _).mono ?_; rintro e w' ⟨rfl, rfl⟩) | (go_at_call 30; refine (either_calls _ _ _ _ _).mono ?_; rintro e w' ⟨rfl, rfl⟩))
  refine bodyPost_ret (results_cell_row rfl _ _ w.heap.size 44 _ (0, 0) _ rfl (by repeat' first | (refine blk_newE ?_; simp; done) | refine blk_alloc ?_ _) rfl rfl rfl) rfl ?_
  exact ⟨_, _, _, _, _, rfl, FRow.nil _ _, FRow.nil _ _, (FVal.a (by repeat' first | (refine blk_newE ?_; simp; done) | refine blk_alloc ?_ _) (by decide)), (by repeat' first | exact Below.refl _ _ | refine below_alloc ?_ _)⟩
theorem shape_30 (w : World) : Calls Try.prog 18 #[.int .i64 30] w (ShpP [69] [] 0 0 w) := by
  go_enter Try.func18, Try.ntmps18
  go_wp2_with (first | (go_at_call 26; refine (a_calls _ _).mono ?_; rintro e w' ⟨rfl, rfl⟩) | (go_at_call 27; refine (many_calls _ _ _ _).mono ?_; rintro e w' ⟨rfl, rfl⟩) | (go_at_call 29; refine (list_calls _ _ _ _).mono ?_; rintro e w' ⟨rfl, rfl⟩) | (go_at_call 30; refine (either_calls _ _ _ _ _).mono ?_; rintro e w' ⟨rfl, rfl⟩))
  refine bodyPost_ret (results_cell_row rfl _ _ w.heap.size 44 _ (0, 0) _ rfl (by repeat' first | (refine blk_newE ?_; simp; done) | refine blk_alloc ?_ _) rfl rfl rfl) rfl ?_
  exact ⟨_, _, _, _, _, rfl, FRow.one (by repeat' first | (refine blk_newE ?_; simp; done) | refine blk_alloc ?_ _) (FVal.expr _), FRow.nil _ _, (FVal.none _), (by repeat' first | exact Below.refl _ _ | refine below_alloc ?_ _)⟩
theorem shape_31 (w : World) : Calls Try.prog 18 #[.int .i64 31] w (ShpP [69, 69] [] 0 0 w) := by
  go_enter Try.func18, Try.ntmps18
  go_wp2_with (first | (go_at_call 26; refine (a_calls _ _).mono ?_; rintro e w' ⟨rfl, rfl⟩) | (go_at_call 27; refine (many_calls _ _ _ _).mono ?_; rintro e w' ⟨rfl, rfl⟩) | (go_at_call 29; refine (list_calls _ _ _ _).mono ?_; rintro e w' ⟨rfl, rfl⟩) | (go_at_call 30; refine (either_calls _ _ _ _ _).mono ?_; rintro e w' ⟨rfl, rfl⟩))
  refine bodyPost_ret (results_cell_row rfl _ _ w.heap.size 44 _ (0, 0) _ rfl (by repeat' first | (refine blk_newE ?_; simp; done) | refine blk_alloc ?_ _) rfl rfl rfl) rfl ?_
  exact ⟨_, _, _, _, _, rfl, FRow.two (by repeat' first | (refine blk_newE ?_; simp; done) | refine blk_alloc ?_ _) (FVal.expr _) (FVal.expr _), FRow.nil _ _, (FVal.none _), (by repeat' first | exact Below.refl _ _ | refine below_alloc ?_ _)⟩
theorem shape_32 (w : World) : Calls Try.prog 18 #[.int .i64 32] w (ShpP [69] [] 104 0 w) := by
  go_enter Try.func18, Try.ntmps18
  go_wp2_with (first | (go_at_call 26; refine (a_calls _ _).mono ?_; rintro e w' ⟨rfl, rfl⟩) | (go_at_call 27; refine (many_calls _ _ _ _).mono ?_; rintro e w' ⟨rfl, rfl⟩) | (go_at_call 29; refine (list_calls _ _ _ _).mono ?_; rintro e w' ⟨rfl, rfl⟩) | (go_at_call 30; refine (either_calls _ _ _ _ _).mono ?_; rintro e w' ⟨rfl, rfl⟩))
  refine bodyPost_ret (results_cell_row rfl _ _ w.heap.size 44 _ (0, 0) _ rfl (by repeat' first | (refine blk_newE ?_; simp; done) | refine blk_alloc ?_ _) rfl rfl rfl) rfl ?_
  exact ⟨_, _, _, _, _, rfl, FRow.one (by repeat' first | (refine blk_newE ?_; simp; done) | refine blk_alloc ?_ _) (FVal.expr _), FRow.nil _ _, (FVal.aa (by repeat' first | (refine blk_newE ?_; simp; done) | refine blk_alloc ?_ _) (by repeat' first | (refine blk_newE ?_; simp; done) | refine blk_alloc ?_ _) (by repeat' first | (refine blk_newE ?_; simp; done) | refine blk_alloc ?_ _) (by repeat' first | (refine blk_newE ?_; simp; done) | refine blk_alloc ?_ _) (by decide)), (by repeat' first | exact Below.refl _ _ | refine below_alloc ?_ _)⟩
theorem shape_33 (w : World) : Calls Try.prog 18 #[.int .i64 33] w (ShpP [86, 69] [] 0 0 w) := by
  go_enter Try.func18, Try.ntmps18
  go_wp2_with (first | (go_at_call 26; refine (a_calls _ _).mono ?_; rintro e w' ⟨rfl, rfl⟩) | (go_at_call 27; refine (many_calls _ _ _ _).mono ?_; rintro e w' ⟨rfl, rfl⟩) | (go_at_call 29; refine (list_calls _ _ _ _).mono ?_; rintro e w' ⟨rfl, rfl⟩) | (go_at_call 30; refine (either_calls _ _ _ _ _).mono ?_; rintro e w' ⟨rfl, rfl⟩))
  refine bodyPost_ret (results_cell_row rfl _ _ w.heap.size 44 _ (0, 0) _ rfl (by repeat' first | (refine blk_newE ?_; simp; done) | refine blk_alloc ?_ _) rfl rfl rfl) rfl ?_
  exact ⟨_, _, _, _, _, rfl, FRow.two (by repeat' first | (refine blk_newE ?_; simp; done) | refine blk_alloc ?_ _) (FVal.param _) (FVal.expr _), FRow.nil _ _, (FVal.none _), (by repeat' first | exact Below.refl _ _ | refine below_alloc ?_ _)⟩
theorem shape_34 (w : World) : Calls Try.prog 18 #[.int .i64 34] w (ShpP [86, 86, 69] [] 0 0 w) := by
  go_enter Try.func18, Try.ntmps18
  go_wp2_with (first | (go_at_call 26; refine (a_calls _ _).mono ?_; rintro e w' ⟨rfl, rfl⟩) | (go_at_call 27; refine (many_calls _ _ _ _).mono ?_; rintro e w' ⟨rfl, rfl⟩) | (go_at_call 29; refine (list_calls _ _ _ _).mono ?_; rintro e w' ⟨rfl, rfl⟩) | (go_at_call 30; refine (either_calls _ _ _ _ _).mono ?_; rintro e w' ⟨rfl, rfl⟩))
  refine bodyPost_ret (results_cell_row rfl _ _ w.heap.size 44 _ (0, 0) _ rfl (by repeat' first | (refine blk_newE ?_; simp; done) | refine blk_alloc ?_ _) rfl rfl rfl) rfl ?_
  exact ⟨_, _, _, _, _, rfl, FRow.three (by repeat' first | (refine blk_newE ?_; simp; done) | refine blk_alloc ?_ _) (FVal.param _) (FVal.param _) (FVal.expr _), FRow.nil _ _, (FVal.none _), (by repeat' first | exact Below.refl _ _ | refine below_alloc ?_ _)⟩
theorem shape_35 (w : World) : Calls Try.prog 18 #[.int .i64 35] w (ShpP [] [] 0 0 w) := by
  go_enter Try.func18, Try.ntmps18
  go_wp2_with (first | (go_at_call 26; refine (a_calls _ _).mono ?_; rintro e w' ⟨rfl, rfl⟩) | (go_at_call 27; refine (many_calls _ _ _ _).mono ?_; rintro e w' ⟨rfl, rfl⟩) | (go_at_call 29; refine (list_calls _ _ _ _).mono ?_; rintro e w' ⟨rfl, rfl⟩) | (go_at_call 30; refine (either_calls _ _ _ _ _).mono ?_; rintro e w' ⟨rfl, rfl⟩))
  refine bodyPost_ret (results_cell_row rfl _ _ w.heap.size 44 _ (0, 0) _ rfl (by repeat' first | (refine blk_newE ?_; simp; done) | refine blk_alloc ?_ _) rfl rfl rfl) rfl ?_
  exact ⟨_, _, _, _, _, rfl, FRow.nil _ _, FRow.nil _ _, (FVal.none _), (by repeat' first | exact Below.refl _ _ | refine below_alloc ?_ _)⟩
theorem shape_36 (w : World) : Calls Try.prog 18 #[.int .i64 36] w (ShpP [] [] 0 0 w) := by
  go_enter Try.func18, Try.ntmps18
  go_wp2_with (first | (go_at_call 26; refine (a_calls _ _).mono ?_; rintro e w' ⟨rfl, rfl⟩) | (go_at_call 27; refine (many_calls _ _ _ _).mono ?_; rintro e w' ⟨rfl, rfl⟩) | (go_at_call 29; refine (list_calls _ _ _ _).mono ?_; rintro e w' ⟨rfl, rfl⟩) | (go_at_call 30; refine (either_calls _ _ _ _ _).mono ?_; rintro e w' ⟨rfl, rfl⟩))
  refine bodyPost_ret (results_cell_row rfl _ _ w.heap.size 44 _ (0, 0) _ rfl (by repeat' first | (refine blk_newE ?_; simp; done) | refine blk_alloc ?_ _) rfl rfl rfl) rfl ?_
  exact ⟨_, _, _, _, _, rfl, FRow.nil _ _, FRow.nil _ _, (FVal.none _), (by repeat' first | exact Below.refl _ _ | refine below_alloc ?_ _)⟩
theorem shape_37 (w : World) : Calls Try.prog 18 #[.int .i64 37] w (ShpP [] [] 0 0 w) := by
  go_enter Try.func18, Try.ntmps18
  go_wp2_with (first | (go_at_call 26; refine (a_calls _ _).mono ?_; rintro e w' ⟨rfl, rfl⟩) | (go_at_call 27; refine (many_calls _ _ _ _).mono ?_; rintro e w' ⟨rfl, rfl⟩) | (go_at_call 29; refine (list_calls _ _ _ _).mono ?_; rintro e w' ⟨rfl, rfl⟩) | (go_at_call 30; refine (either_calls _ _ _ _ _).mono ?_; rintro e w' ⟨rfl, rfl⟩))
  refine bodyPost_ret (results_cell_row rfl _ _ w.heap.size 44 _ (0, 0) _ rfl (by repeat' first | (refine blk_newE ?_; simp; done) | refine blk_alloc ?_ _) rfl rfl rfl) rfl ?_
  exact ⟨_, _, _, _, _, rfl, FRow.nil _ _, FRow.nil _ _, (FVal.none _), (by repeat' first | exact Below.refl _ _ | refine below_alloc ?_ _)⟩
theorem shape_38 (w : World) : Calls Try.prog 18 #[.int .i64 38] w (ShpP [] [] 80 0 w) := by
  go_enter Try.func18, Try.ntmps18
  go_wp2_with (first | (go_at_call 26; refine (a_calls _ _).mono ?_; rintro e w' ⟨rfl, rfl⟩) | (go_at_call 27; refine (many_calls _ _ _ _).mono ?_; rintro e w' ⟨rfl, rfl⟩) | (go_at_call 29; refine (list_calls _ _ _ _).mono ?_; rintro e w' ⟨rfl, rfl⟩) | (go_at_call 30; refine (either_calls _ _ _ _ _).mono ?_; rintro e w' ⟨rfl, rfl⟩))
  refine bodyPost_ret (results_cell_row rfl _ _ w.heap.size 44 _ (0, 0) _ rfl (by repeat' first | (refine blk_newE ?_; simp; done) | refine blk_alloc ?_ _) rfl rfl rfl) rfl ?_
  exact ⟨_, _, _, _, _, rfl, FRow.nil _ _, FRow.nil _ _, (FVal.pat _), (by repeat' first | exact Below.refl _ _ | refine below_alloc ?_ _)⟩
theorem group_5 (w : World) : Calls Try.prog 16 #[.int .i64 5] w (GrpP [118, 99] [0, 1] w) := by
  go_enter Try.func16, Try.ntmps16
  go_wp2_with (first | (go_at_call 26; refine (a_calls _ _).mono ?_; rintro e w' ⟨rfl, rfl⟩) | (go_at_call 27; refine (many_calls _ _ _ _).mono ?_; rintro e w' ⟨rfl, rfl⟩) | (go_at_call 29; refine (list_calls _ _ _ _).mono ?_; rintro e w' ⟨rfl, rfl⟩) | (go_at_call 30; refine (either_calls _ _ _ _ _).mono ?_; rintro e w' ⟨rfl, rfl⟩))
  go_ret2
  exact ⟨_, _, _, _, rfl, rfl, FRow.two (by repeat' first | (refine blk_newE ?_; simp; done) | refine blk_alloc ?_ _) (FVal.a (by repeat' first | (refine blk_newE ?_; simp; done) | refine blk_alloc ?_ _) (by decide)) (FVal.a (by repeat' first | (refine blk_newE ?_; simp; done) | refine blk_alloc ?_ _) (by decide)), (by repeat' first | (refine blk_newE ?_; simp; done) | refine blk_alloc ?_ _), (by repeat' first | exact Below.refl _ _ | refine below_alloc ?_ _)⟩
theorem group_9 (w : World) : Calls Try.prog 16 #[.int .i64 9] w (GrpP [118, 110, 115] [1, 0, 0] w) := by
  go_enter Try.func16, Try.ntmps16
  go_wp2_with (first | (go_at_call 26; refine (a_calls _ _).mono ?_; rintro e w' ⟨rfl, rfl⟩) | (go_at_call 27; refine (many_calls _ _ _ _).mono ?_; rintro e w' ⟨rfl, rfl⟩) | (go_at_call 29; refine (list_calls _ _ _ _).mono ?_; rintro e w' ⟨rfl, rfl⟩) | (go_at_call 30; refine (either_calls _ _ _ _ _).mono ?_; rintro e w' ⟨rfl, rfl⟩))
  go_ret2
  exact ⟨_, _, _, _, rfl, rfl, FRow.three (by repeat' first | (refine blk_newE ?_; simp; done) | refine blk_alloc ?_ _) (FVal.a (by repeat' first | (refine blk_newE ?_; simp; done) | refine blk_alloc ?_ _) (by decide)) (FVal.a (by repeat' first | (refine blk_newE ?_; simp; done) | refine blk_alloc ?_ _) (by decide)) (FVal.a (by repeat' first | (refine blk_newE ?_; simp; done) | refine blk_alloc ?_ _) (by decide)), (by repeat' first | (refine blk_newE ?_; simp; done) | refine blk_alloc ?_ _), (by repeat' first | exact Below.refl _ _ | refine below_alloc ?_ _)⟩
theorem group_10 (w : World) : Calls Try.prog 16 #[.int .i64 10] w (GrpP [84, 113, 100] [1, 0, 0] w) := by
  go_enter Try.func16, Try.ntmps16
  go_wp2_with (first | (go_at_call 26; refine (a_calls _ _).mono ?_; rintro e w' ⟨rfl, rfl⟩) | (go_at_call 27; refine (many_calls _ _ _ _).mono ?_; rintro e w' ⟨rfl, rfl⟩) | (go_at_call 29; refine (list_calls _ _ _ _).mono ?_; rintro e w' ⟨rfl, rfl⟩) | (go_at_call 30; refine (either_calls _ _ _ _ _).mono ?_; rintro e w' ⟨rfl, rfl⟩))
  go_ret2
  exact ⟨_, _, _, _, rfl, rfl, FRow.three (by repeat' first | (refine blk_newE ?_; simp; done) | refine blk_alloc ?_ _) (FVal.type _) (FVal.a (by repeat' first | (refine blk_newE ?_; simp; done) | refine blk_alloc ?_ _) (by decide)) (FVal.a (by repeat' first | (refine blk_newE ?_; simp; done) | refine blk_alloc ?_ _) (by decide)), (by repeat' first | (refine blk_newE ?_; simp; done) | refine blk_alloc ?_ _), (by repeat' first | exact Below.refl _ _ | refine below_alloc ?_ _)⟩
theorem group_17 (w : World) : Calls Try.prog 16 #[.int .i64 17] w (GrpP [102, 118] [0, 0] w) := by
  go_enter Try.func16, Try.ntmps16
  go_wp2_with (first | (go_at_call 26; refine (a_calls _ _).mono ?_; rintro e w' ⟨rfl, rfl⟩) | (go_at_call 27; refine (many_calls _ _ _ _).mono ?_; rintro e w' ⟨rfl, rfl⟩) | (go_at_call 29; refine (list_calls _ _ _ _).mono ?_; rintro e w' ⟨rfl, rfl⟩) | (go_at_call 30; refine (either_calls _ _ _ _ _).mono ?_; rintro e w' ⟨rfl, rfl⟩))
  go_ret2
  exact ⟨_, _, _, _, rfl, rfl, FRow.two (by repeat' first | (refine blk_newE ?_; simp; done) | refine blk_alloc ?_ _) (FVal.a (by repeat' first | (refine blk_newE ?_; simp; done) | refine blk_alloc ?_ _) (by decide)) (FVal.a (by repeat' first | (refine blk_newE ?_; simp; done) | refine blk_alloc ?_ _) (by decide)), (by repeat' first | (refine blk_newE ?_; simp; done) | refine blk_alloc ?_ _), (by repeat' first | exact Below.refl _ _ | refine below_alloc ?_ _)⟩
theorem group_18 (w : World) : Calls Try.prog 16 #[.int .i64 18] w (GrpP [110, 118] [0, 0] w) := by
  go_enter Try.func16, Try.ntmps16
  go_wp2_with (first | (go_at_call 26; refine (a_calls _ _).mono ?_; rintro e w' ⟨rfl, rfl⟩) | (go_at_call 27; refine (many_calls _ _ _ _).mono ?_; rintro e w' ⟨rfl, rfl⟩) | (go_at_call 29; refine (list_calls _ _ _ _).mono ?_; rintro e w' ⟨rfl, rfl⟩) | (go_at_call 30; refine (either_calls _ _ _ _ _).mono ?_; rintro e w' ⟨rfl, rfl⟩))
  go_ret2
  exact ⟨_, _, _, _, rfl, rfl, FRow.two (by repeat' first | (refine blk_newE ?_; simp; done) | refine blk_alloc ?_ _) (FVal.a (by repeat' first | (refine blk_newE ?_; simp; done) | refine blk_alloc ?_ _) (by decide)) (FVal.a (by repeat' first | (refine blk_newE ?_; simp; done) | refine blk_alloc ?_ _) (by decide)), (by repeat' first | (refine blk_newE ?_; simp; done) | refine blk_alloc ?_ _), (by repeat' first | exact Below.refl _ _ | refine below_alloc ?_ _)⟩
theorem group_0 (w : World) : Calls Try.prog 16 #[.int .i64 0] w (fun e w' => e = .returned (.tuple #[.slice none 0 0, .slice none 0 0]) ∧ w' = w) := by
  go_enter Try.func16, Try.ntmps16
  go_wp2_with fail
  go_ret2
  exact ⟨rfl, rfl⟩
theorem group_1 (w : World) : Calls Try.prog 16 #[.int .i64 1] w (fun e w' => e = .returned (.tuple #[.slice none 0 0, .slice none 0 0]) ∧ w' = w) := by
  go_enter Try.func16, Try.ntmps16
  go_wp2_with fail
  go_ret2
  exact ⟨rfl, rfl⟩
theorem group_2 (w : World) : Calls Try.prog 16 #[.int .i64 2] w (fun e w' => e = .returned (.tuple #[.slice none 0 0, .slice none 0 0]) ∧ w' = w) := by
  go_enter Try.func16, Try.ntmps16
  go_wp2_with fail
  go_ret2
  exact ⟨rfl, rfl⟩
theorem group_3 (w : World) : Calls Try.prog 16 #[.int .i64 3] w (fun e w' => e = .returned (.tuple #[.slice none 0 0, .slice none 0 0]) ∧ w' = w) := by
  go_enter Try.func16, Try.ntmps16
  go_wp2_with fail
  go_ret2
  exact ⟨rfl, rfl⟩
theorem group_4 (w : World) : Calls Try.prog 16 #[.int .i64 4] w (fun e w' => e = .returned (.tuple #[.slice none 0 0, .slice none 0 0]) ∧ w' = w) := by
  go_enter Try.func16, Try.ntmps16
  go_wp2_with fail
  go_ret2
  exact ⟨rfl, rfl⟩
theorem group_6 (w : World) : Calls Try.prog 16 #[.int .i64 6] w (fun e w' => e = .returned (.tuple #[.slice none 0 0, .slice none 0 0]) ∧ w' = w) := by
  go_enter Try.func16, Try.ntmps16
  go_wp2_with fail
  go_ret2
  exact ⟨rfl, rfl⟩
theorem group_7 (w : World) : Calls Try.prog 16 #[.int .i64 7] w (fun e w' => e = .returned (.tuple #[.slice none 0 0, .slice none 0 0]) ∧ w' = w) := by
  go_enter Try.func16, Try.ntmps16
  go_wp2_with fail
  go_ret2
  exact ⟨rfl, rfl⟩
theorem group_8 (w : World) : Calls Try.prog 16 #[.int .i64 8] w (fun e w' => e = .returned (.tuple #[.slice none 0 0, .slice none 0 0]) ∧ w' = w) := by
  go_enter Try.func16, Try.ntmps16
  go_wp2_with fail
  go_ret2
  exact ⟨rfl, rfl⟩
theorem group_11 (w : World) : Calls Try.prog 16 #[.int .i64 11] w (fun e w' => e = .returned (.tuple #[.slice none 0 0, .slice none 0 0]) ∧ w' = w) := by
  go_enter Try.func16, Try.ntmps16
  go_wp2_with fail
  go_ret2
  exact ⟨rfl, rfl⟩
theorem group_12 (w : World) : Calls Try.prog 16 #[.int .i64 12] w (fun e w' => e = .returned (.tuple #[.slice none 0 0, .slice none 0 0]) ∧ w' = w) := by
  go_enter Try.func16, Try.ntmps16
  go_wp2_with fail
  go_ret2
  exact ⟨rfl, rfl⟩
theorem group_13 (w : World) : Calls Try.prog 16 #[.int .i64 13] w (fun e w' => e = .returned (.tuple #[.slice none 0 0, .slice none 0 0]) ∧ w' = w) := by
  go_enter Try.func16, Try.ntmps16
  go_wp2_with fail
  go_ret2
  exact ⟨rfl, rfl⟩
theorem group_14 (w : World) : Calls Try.prog 16 #[.int .i64 14] w (fun e w' => e = .returned (.tuple #[.slice none 0 0, .slice none 0 0]) ∧ w' = w) := by
  go_enter Try.func16, Try.ntmps16
  go_wp2_with fail
  go_ret2
  exact ⟨rfl, rfl⟩
theorem group_15 (w : World) : Calls Try.prog 16 #[.int .i64 15] w (fun e w' => e = .returned (.tuple #[.slice none 0 0, .slice none 0 0]) ∧ w' = w) := by
  go_enter Try.func16, Try.ntmps16
  go_wp2_with fail
  go_ret2
  exact ⟨rfl, rfl⟩
theorem group_16 (w : World) : Calls Try.prog 16 #[.int .i64 16] w (fun e w' => e = .returned (.tuple #[.slice none 0 0, .slice none 0 0]) ∧ w' = w) := by
  go_enter Try.func16, Try.ntmps16
  go_wp2_with fail
  go_ret2
  exact ⟨rfl, rfl⟩
theorem group_19 (w : World) : Calls Try.prog 16 #[.int .i64 19] w (fun e w' => e = .returned (.tuple #[.slice none 0 0, .slice none 0 0]) ∧ w' = w) := by
  go_enter Try.func16, Try.ntmps16
  go_wp2_with fail
  go_ret2
  exact ⟨rfl, rfl⟩
theorem group_20 (w : World) : Calls Try.prog 16 #[.int .i64 20] w (fun e w' => e = .returned (.tuple #[.slice none 0 0, .slice none 0 0]) ∧ w' = w) := by
  go_enter Try.func16, Try.ntmps16
  go_wp2_with fail
  go_ret2
  exact ⟨rfl, rfl⟩
theorem group_21 (w : World) : Calls Try.prog 16 #[.int .i64 21] w (fun e w' => e = .returned (.tuple #[.slice none 0 0, .slice none 0 0]) ∧ w' = w) := by
  go_enter Try.func16, Try.ntmps16
  go_wp2_with fail
  go_ret2
  exact ⟨rfl, rfl⟩
theorem group_22 (w : World) : Calls Try.prog 16 #[.int .i64 22] w (fun e w' => e = .returned (.tuple #[.slice none 0 0, .slice none 0 0]) ∧ w' = w) := by
  go_enter Try.func16, Try.ntmps16
  go_wp2_with fail
  go_ret2
  exact ⟨rfl, rfl⟩
theorem group_23 (w : World) : Calls Try.prog 16 #[.int .i64 23] w (fun e w' => e = .returned (.tuple #[.slice none 0 0, .slice none 0 0]) ∧ w' = w) := by
  go_enter Try.func16, Try.ntmps16
  go_wp2_with fail
  go_ret2
  exact ⟨rfl, rfl⟩
theorem group_25 (w : World) : Calls Try.prog 16 #[.int .i64 25] w (fun e w' => e = .returned (.tuple #[.slice none 0 0, .slice none 0 0]) ∧ w' = w) := by
  go_enter Try.func16, Try.ntmps16
  go_wp2_with fail
  go_ret2
  exact ⟨rfl, rfl⟩
theorem group_26 (w : World) : Calls Try.prog 16 #[.int .i64 26] w (fun e w' => e = .returned (.tuple #[.slice none 0 0, .slice none 0 0]) ∧ w' = w) := by
  go_enter Try.func16, Try.ntmps16
  go_wp2_with fail
  go_ret2
  exact ⟨rfl, rfl⟩
theorem group_27 (w : World) : Calls Try.prog 16 #[.int .i64 27] w (fun e w' => e = .returned (.tuple #[.slice none 0 0, .slice none 0 0]) ∧ w' = w) := by
  go_enter Try.func16, Try.ntmps16
  go_wp2_with fail
  go_ret2
  exact ⟨rfl, rfl⟩
theorem group_28 (w : World) : Calls Try.prog 16 #[.int .i64 28] w (fun e w' => e = .returned (.tuple #[.slice none 0 0, .slice none 0 0]) ∧ w' = w) := by
  go_enter Try.func16, Try.ntmps16
  go_wp2_with fail
  go_ret2
  exact ⟨rfl, rfl⟩
theorem group_29 (w : World) : Calls Try.prog 16 #[.int .i64 29] w (fun e w' => e = .returned (.tuple #[.slice none 0 0, .slice none 0 0]) ∧ w' = w) := by
  go_enter Try.func16, Try.ntmps16
  go_wp2_with fail
  go_ret2
  exact ⟨rfl, rfl⟩
theorem group_30 (w : World) : Calls Try.prog 16 #[.int .i64 30] w (fun e w' => e = .returned (.tuple #[.slice none 0 0, .slice none 0 0]) ∧ w' = w) := by
  go_enter Try.func16, Try.ntmps16
  go_wp2_with fail
  go_ret2
  exact ⟨rfl, rfl⟩
theorem group_31 (w : World) : Calls Try.prog 16 #[.int .i64 31] w (fun e w' => e = .returned (.tuple #[.slice none 0 0, .slice none 0 0]) ∧ w' = w) := by
  go_enter Try.func16, Try.ntmps16
  go_wp2_with fail
  go_ret2
  exact ⟨rfl, rfl⟩
theorem group_32 (w : World) : Calls Try.prog 16 #[.int .i64 32] w (fun e w' => e = .returned (.tuple #[.slice none 0 0, .slice none 0 0]) ∧ w' = w) := by
  go_enter Try.func16, Try.ntmps16
  go_wp2_with fail
  go_ret2
  exact ⟨rfl, rfl⟩
theorem group_33 (w : World) : Calls Try.prog 16 #[.int .i64 33] w (fun e w' => e = .returned (.tuple #[.slice none 0 0, .slice none 0 0]) ∧ w' = w) := by
  go_enter Try.func16, Try.ntmps16
  go_wp2_with fail
  go_ret2
  exact ⟨rfl, rfl⟩
theorem group_34 (w : World) : Calls Try.prog 16 #[.int .i64 34] w (fun e w' => e = .returned (.tuple #[.slice none 0 0, .slice none 0 0]) ∧ w' = w) := by
  go_enter Try.func16, Try.ntmps16
  go_wp2_with fail
  go_ret2
  exact ⟨rfl, rfl⟩
theorem group_35 (w : World) : Calls Try.prog 16 #[.int .i64 35] w (fun e w' => e = .returned (.tuple #[.slice none 0 0, .slice none 0 0]) ∧ w' = w) := by
  go_enter Try.func16, Try.ntmps16
  go_wp2_with fail
  go_ret2
  exact ⟨rfl, rfl⟩
theorem group_36 (w : World) : Calls Try.prog 16 #[.int .i64 36] w (fun e w' => e = .returned (.tuple #[.slice none 0 0, .slice none 0 0]) ∧ w' = w) := by
  go_enter Try.func16, Try.ntmps16
  go_wp2_with fail
  go_ret2
  exact ⟨rfl, rfl⟩
theorem group_37 (w : World) : Calls Try.prog 16 #[.int .i64 37] w (fun e w' => e = .returned (.tuple #[.slice none 0 0, .slice none 0 0]) ∧ w' = w) := by
  go_enter Try.func16, Try.ntmps16
  go_wp2_with fail
  go_ret2
  exact ⟨rfl, rfl⟩
theorem group_38 (w : World) : Calls Try.prog 16 #[.int .i64 38] w (fun e w' => e = .returned (.tuple #[.slice none 0 0, .slice none 0 0]) ∧ w' = w) := by
  go_enter Try.func16, Try.ntmps16
  go_wp2_with fail
  go_ret2
  exact ⟨rfl, rfl⟩
end Go.Proofs.Ytemdfhaceddmpaa.Tr
