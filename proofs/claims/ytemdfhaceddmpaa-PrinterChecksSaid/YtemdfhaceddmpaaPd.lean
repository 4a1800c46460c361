import Derived.Test.YtemdfhaceddmpaaPb
namespace Go.Proofs.Ytemdfhaceddmpaa.Tr
open Go.Shelf Go.RowKit Go.Proofs.Ytemdfhaceddmpaa.PPrinterTells Go.Proofs.YtemdfhaceddmpaaW.PrintWords Go.Proofs.YtemdfhaceddmpaaW.PrintLast Go.Proofs.YtemdfhaceddmpaaW.PrintMore
set_option linter.unusedVariables false
set_option linter.unusedSimpArgs false
theorem shpB_F (k : Int) (its : List (UInt8 × UInt8)) (h : itemsOf k = its) (hk : ¬ k = 24) (hl : its.length ≤ 10) (l : List Int) : shpB k l = F its l := by
  rw [shpB, if_neg hk, h, fit_F _ _ _ (by omega)]

theorem items_0 : itemsOf 0 = [(68, 42)] := by unfold itemsOf; kernel_rfl
theorem items_1 : itemsOf 1 = [(110, 42)] := by unfold itemsOf; kernel_rfl
theorem items_2 : itemsOf 2 = [(110, 42)] := by unfold itemsOf; kernel_rfl
theorem items_3 : itemsOf 3 = [] := by unfold itemsOf; kernel_rfl
theorem items_4 : itemsOf 4 = [] := by unfold itemsOf; kernel_rfl
theorem items_5 : itemsOf 5 = [(118, 42), (99, 43)] := by unfold itemsOf; kernel_rfl
theorem items_6 : itemsOf 6 = [(84, 42)] := by unfold itemsOf; kernel_rfl
theorem items_7 : itemsOf 7 = [(111, 42)] := by unfold itemsOf; kernel_rfl
theorem items_8 : itemsOf 8 = [(84, 0), (84, 0)] := by unfold itemsOf; kernel_rfl
theorem items_9 : itemsOf 9 = [(118, 0), (110, 42), (115, 42)] := by unfold itemsOf; kernel_rfl
theorem items_10 : itemsOf 10 = [(84, 0), (113, 42), (100, 42)] := by unfold itemsOf; kernel_rfl
theorem items_11 : itemsOf 11 = [(118, 0)] := by unfold itemsOf; kernel_rfl
theorem items_12 : itemsOf 12 = [(113, 42), (84, 0)] := by unfold itemsOf; kernel_rfl
theorem items_13 : itemsOf 13 = [(69, 0)] := by unfold itemsOf; kernel_rfl
theorem items_14 : itemsOf 14 = [] := by unfold itemsOf; kernel_rfl
theorem items_15 : itemsOf 15 = [(84, 42)] := by unfold itemsOf; kernel_rfl
theorem items_16 : itemsOf 16 = [(84, 0), (114, 0), (84, 0)] := by unfold itemsOf; kernel_rfl
theorem items_17 : itemsOf 17 = [(102, 42), (118, 63)] := by unfold itemsOf; kernel_rfl
theorem items_18 : itemsOf 18 = [(110, 42), (118, 63)] := by unfold itemsOf; kernel_rfl
theorem items_19 : itemsOf 19 = [(88, 0)] := by unfold itemsOf; kernel_rfl
theorem items_20 : itemsOf 20 = [] := by unfold itemsOf; kernel_rfl
theorem items_21 : itemsOf 21 = [] := by unfold itemsOf; kernel_rfl
theorem items_22 : itemsOf 22 = [(86, 43), (69, 0)] := by unfold itemsOf; kernel_rfl
theorem items_23 : itemsOf 23 = [(69, 0), (69, 0)] := by unfold itemsOf; kernel_rfl
theorem items_25 : itemsOf 25 = [(98, 42), (69, 0)] := by unfold itemsOf; kernel_rfl
theorem items_26 : itemsOf 26 = [(69, 0), (69, 0), (69, 0)] := by unfold itemsOf; kernel_rfl
theorem items_27 : itemsOf 27 = [(69, 0), (97, 42)] := by unfold itemsOf; kernel_rfl
theorem items_28 : itemsOf 28 = [(80, 0), (69, 0)] := by unfold itemsOf; kernel_rfl
theorem items_29 : itemsOf 29 = [(102, 42)] := by unfold itemsOf; kernel_rfl
theorem items_30 : itemsOf 30 = [(69, 0)] := by unfold itemsOf; kernel_rfl
theorem items_31 : itemsOf 31 = [(69, 0), (69, 0)] := by unfold itemsOf; kernel_rfl
theorem items_32 : itemsOf 32 = [(69, 0), (104, 42)] := by unfold itemsOf; kernel_rfl
theorem items_33 : itemsOf 33 = [(86, 0), (69, 0)] := by unfold itemsOf; kernel_rfl
theorem items_34 : itemsOf 34 = [(86, 0), (86, 0), (69, 0)] := by unfold itemsOf; kernel_rfl
theorem items_35 : itemsOf 35 = [] := by unfold itemsOf; kernel_rfl
theorem items_36 : itemsOf 36 = [] := by unfold itemsOf; kernel_rfl
theorem items_37 : itemsOf 37 = [] := by unfold itemsOf; kernel_rfl
theorem items_38 : itemsOf 38 = [(80, 42)] := by unfold itemsOf; kernel_rfl
theorem shp_0 (l : List Int) : shpB 0 l = sB [] [] 68 0 l := (shpB_F 0 _ items_0 (by decide) (by decide) l).trans (sB_star [] [] 68 l)
theorem shp_1 (l : List Int) : shpB 1 l = sB [] [] 110 0 l := (shpB_F 1 _ items_1 (by decide) (by decide) l).trans (sB_star [] [] 110 l)
theorem shp_2 (l : List Int) : shpB 2 l = sB [] [] 110 0 l := (shpB_F 2 _ items_2 (by decide) (by decide) l).trans (sB_star [] [] 110 l)
theorem shp_3 (l : List Int) : shpB 3 l = sB [] [] 0 0 l := (shpB_F 3 _ items_3 (by decide) (by decide) l).trans (sB_list [] l)
theorem shp_4 (l : List Int) : shpB 4 l = sB [] [] 0 0 l := (shpB_F 4 _ items_4 (by decide) (by decide) l).trans (sB_list [] l)
theorem shp_6 (l : List Int) : shpB 6 l = sB [] [] 84 0 l := (shpB_F 6 _ items_6 (by decide) (by decide) l).trans (sB_star [] [] 84 l)
theorem shp_7 (l : List Int) : shpB 7 l = sB [] [] 111 0 l := (shpB_F 7 _ items_7 (by decide) (by decide) l).trans (sB_star [] [] 111 l)
theorem shp_8 (l : List Int) : shpB 8 l = sB [84, 84] [] 0 0 l := (shpB_F 8 _ items_8 (by decide) (by decide) l).trans (sB_list [84, 84] l)
theorem shp_11 (l : List Int) : shpB 11 l = sB [118] [] 0 0 l := (shpB_F 11 _ items_11 (by decide) (by decide) l).trans (sB_list [118] l)
theorem shp_12 (l : List Int) : shpB 12 l = sB [] [84] 113 0 l := (shpB_F 12 _ items_12 (by decide) (by decide) l).trans (sB_star [] [84] 113 l)
theorem shp_13 (l : List Int) : shpB 13 l = sB [69] [] 0 0 l := (shpB_F 13 _ items_13 (by decide) (by decide) l).trans (sB_list [69] l)
theorem shp_14 (l : List Int) : shpB 14 l = sB [] [] 0 0 l := (shpB_F 14 _ items_14 (by decide) (by decide) l).trans (sB_list [] l)
theorem shp_15 (l : List Int) : shpB 15 l = sB [] [] 84 0 l := (shpB_F 15 _ items_15 (by decide) (by decide) l).trans (sB_star [] [] 84 l)
theorem shp_16 (l : List Int) : shpB 16 l = sB [84, 114, 84] [] 0 0 l := (shpB_F 16 _ items_16 (by decide) (by decide) l).trans (sB_list [84, 114, 84] l)
theorem shp_19 (l : List Int) : shpB 19 l = sB [88] [] 0 0 l := (shpB_F 19 _ items_19 (by decide) (by decide) l).trans (sB_list [88] l)
theorem shp_20 (l : List Int) : shpB 20 l = sB [] [] 0 0 l := (shpB_F 20 _ items_20 (by decide) (by decide) l).trans (sB_list [] l)
theorem shp_21 (l : List Int) : shpB 21 l = sB [] [] 0 0 l := (shpB_F 21 _ items_21 (by decide) (by decide) l).trans (sB_list [] l)
theorem shp_22 (l : List Int) : shpB 22 l = sB [] [69] 86 1 l := (shpB_F 22 _ items_22 (by decide) (by decide) l).trans (sB_plus [] [69] 86 l)
theorem shp_23 (l : List Int) : shpB 23 l = sB [69, 69] [] 0 0 l := (shpB_F 23 _ items_23 (by decide) (by decide) l).trans (sB_list [69, 69] l)
theorem shp_25 (l : List Int) : shpB 25 l = sB [] [69] 98 0 l := (shpB_F 25 _ items_25 (by decide) (by decide) l).trans (sB_star [] [69] 98 l)
theorem shp_26 (l : List Int) : shpB 26 l = sB [69, 69, 69] [] 0 0 l := (shpB_F 26 _ items_26 (by decide) (by decide) l).trans (sB_list [69, 69, 69] l)
theorem shp_27 (l : List Int) : shpB 27 l = sB [69] [] 97 0 l := (shpB_F 27 _ items_27 (by decide) (by decide) l).trans (sB_star [69] [] 97 l)
theorem shp_28 (l : List Int) : shpB 28 l = sB [80, 69] [] 0 0 l := (shpB_F 28 _ items_28 (by decide) (by decide) l).trans (sB_list [80, 69] l)
theorem shp_29 (l : List Int) : shpB 29 l = sB [] [] 102 0 l := (shpB_F 29 _ items_29 (by decide) (by decide) l).trans (sB_star [] [] 102 l)
theorem shp_30 (l : List Int) : shpB 30 l = sB [69] [] 0 0 l := (shpB_F 30 _ items_30 (by decide) (by decide) l).trans (sB_list [69] l)
theorem shp_31 (l : List Int) : shpB 31 l = sB [69, 69] [] 0 0 l := (shpB_F 31 _ items_31 (by decide) (by decide) l).trans (sB_list [69, 69] l)
theorem shp_32 (l : List Int) : shpB 32 l = sB [69] [] 104 0 l := (shpB_F 32 _ items_32 (by decide) (by decide) l).trans (sB_star [69] [] 104 l)
theorem shp_33 (l : List Int) : shpB 33 l = sB [86, 69] [] 0 0 l := (shpB_F 33 _ items_33 (by decide) (by decide) l).trans (sB_list [86, 69] l)
theorem shp_34 (l : List Int) : shpB 34 l = sB [86, 86, 69] [] 0 0 l := (shpB_F 34 _ items_34 (by decide) (by decide) l).trans (sB_list [86, 86, 69] l)
theorem shp_35 (l : List Int) : shpB 35 l = sB [] [] 0 0 l := (shpB_F 35 _ items_35 (by decide) (by decide) l).trans (sB_list [] l)
theorem shp_36 (l : List Int) : shpB 36 l = sB [] [] 0 0 l := (shpB_F 36 _ items_36 (by decide) (by decide) l).trans (sB_list [] l)
theorem shp_37 (l : List Int) : shpB 37 l = sB [] [] 0 0 l := (shpB_F 37 _ items_37 (by decide) (by decide) l).trans (sB_list [] l)
theorem shp_38 (l : List Int) : shpB 38 l = sB [] [] 80 0 l := (shpB_F 38 _ items_38 (by decide) (by decide) l).trans (sB_star [] [] 80 l)
theorem shp_5 (l : List Int) : shpB 5 l = G [(118, 42), (99, 43)] l := (shpB_F 5 _ items_5 (by decide) (by decide) l).trans (F_G _ (by decide) l)
theorem shp_9 (l : List Int) : shpB 9 l = G [(118, 0), (110, 42), (115, 42)] l := (shpB_F 9 _ items_9 (by decide) (by decide) l).trans (F_G _ (by decide) l)
theorem shp_10 (l : List Int) : shpB 10 l = G [(84, 0), (113, 42), (100, 42)] l := (shpB_F 10 _ items_10 (by decide) (by decide) l).trans (F_G _ (by decide) l)
theorem shp_17 (l : List Int) : shpB 17 l = G [(102, 42), (118, 63)] l := (shpB_F 17 _ items_17 (by decide) (by decide) l).trans (F_G _ (by decide) l)
theorem shp_18 (l : List Int) : shpB 18 l = G [(110, 42), (118, 63)] l := (shpB_F 18 _ items_18 (by decide) (by decide) l).trans (F_G _ (by decide) l)
/-- A kind without groups. -/
theorem shapes (k : Int) (h0 : 0 ≤ k) (h1 : k ≤ 38) (h2 : ¬ k = 24) (h3 : k ∉ ([5, 9, 10, 17, 18] : List Int)) : ∃ (fi la : List Int) (be : Int) (le : Nat), fi.length ≤ 3 ∧ la.length ≤ 3 ∧ le ≤ 1 ∧ (∀ l, shpB k l = sB fi la be le l) ∧ (∀ w, Calls Try.prog 18 #[.int .i64 k] w (ShpP fi la be le w)) ∧
    ∀ w, Calls Try.prog 16 #[.int .i64 k] w (fun e w' => e = .returned (.tuple #[.slice none 0 0, .slice none 0 0]) ∧ w' = w) := by
  simp only [List.mem_cons, List.not_mem_nil, or_false, not_or] at h3
  have hk : k = 0 ∨ k = 1 ∨ k = 2 ∨ k = 3 ∨ k = 4 ∨ k = 6 ∨ k = 7 ∨ k = 8 ∨ k = 11 ∨ k = 12 ∨ k = 13 ∨ k = 14 ∨ k = 15 ∨ k = 16 ∨ k = 19 ∨ k = 20 ∨ k = 21 ∨ k = 22 ∨ k = 23 ∨ k = 25 ∨ k = 26 ∨ k = 27 ∨ k = 28 ∨ k = 29 ∨ k = 30 ∨ k = 31 ∨ k = 32 ∨ k = 33 ∨ k = 34 ∨ k = 35 ∨ k = 36 ∨ k = 37 ∨ k = 38 := by omega
  rcases hk with rfl | rfl | rfl | rfl | rfl | rfl | rfl | rfl | rfl | rfl | rfl | rfl | rfl | rfl | rfl | rfl | rfl | rfl | rfl | rfl | rfl | rfl | rfl | rfl | rfl | rfl | rfl | rfl | rfl | rfl | rfl | rfl | rfl
  · exact ⟨[], [], 68, 0, by decide, by decide, by decide, shp_0, shape_0, group_0⟩
  · exact ⟨[], [], 110, 0, by decide, by decide, by decide, shp_1, shape_1, group_1⟩
  · exact ⟨[], [], 110, 0, by decide, by decide, by decide, shp_2, shape_2, group_2⟩
  · exact ⟨[], [], 0, 0, by decide, by decide, by decide, shp_3, shape_3, group_3⟩
  · exact ⟨[], [], 0, 0, by decide, by decide, by decide, shp_4, shape_4, group_4⟩
  · exact ⟨[], [], 84, 0, by decide, by decide, by decide, shp_6, shape_6, group_6⟩
  · exact ⟨[], [], 111, 0, by decide, by decide, by decide, shp_7, shape_7, group_7⟩
  · exact ⟨[84, 84], [], 0, 0, by decide, by decide, by decide, shp_8, shape_8, group_8⟩
  · exact ⟨[118], [], 0, 0, by decide, by decide, by decide, shp_11, shape_11, group_11⟩
  · exact ⟨[], [84], 113, 0, by decide, by decide, by decide, shp_12, shape_12, group_12⟩
  · exact ⟨[69], [], 0, 0, by decide, by decide, by decide, shp_13, shape_13, group_13⟩
  · exact ⟨[], [], 0, 0, by decide, by decide, by decide, shp_14, shape_14, group_14⟩
  · exact ⟨[], [], 84, 0, by decide, by decide, by decide, shp_15, shape_15, group_15⟩
  · exact ⟨[84, 114, 84], [], 0, 0, by decide, by decide, by decide, shp_16, shape_16, group_16⟩
  · exact ⟨[88], [], 0, 0, by decide, by decide, by decide, shp_19, shape_19, group_19⟩
  · exact ⟨[], [], 0, 0, by decide, by decide, by decide, shp_20, shape_20, group_20⟩
  · exact ⟨[], [], 0, 0, by decide, by decide, by decide, shp_21, shape_21, group_21⟩
  · exact ⟨[], [69], 86, 1, by decide, by decide, by decide, shp_22, shape_22, group_22⟩
  · exact ⟨[69, 69], [], 0, 0, by decide, by decide, by decide, shp_23, shape_23, group_23⟩
  · exact ⟨[], [69], 98, 0, by decide, by decide, by decide, shp_25, shape_25, group_25⟩
  · exact ⟨[69, 69, 69], [], 0, 0, by decide, by decide, by decide, shp_26, shape_26, group_26⟩
  · exact ⟨[69], [], 97, 0, by decide, by decide, by decide, shp_27, shape_27, group_27⟩
  · exact ⟨[80, 69], [], 0, 0, by decide, by decide, by decide, shp_28, shape_28, group_28⟩
  · exact ⟨[], [], 102, 0, by decide, by decide, by decide, shp_29, shape_29, group_29⟩
  · exact ⟨[69], [], 0, 0, by decide, by decide, by decide, shp_30, shape_30, group_30⟩
  · exact ⟨[69, 69], [], 0, 0, by decide, by decide, by decide, shp_31, shape_31, group_31⟩
  · exact ⟨[69], [], 104, 0, by decide, by decide, by decide, shp_32, shape_32, group_32⟩
  · exact ⟨[86, 69], [], 0, 0, by decide, by decide, by decide, shp_33, shape_33, group_33⟩
  · exact ⟨[86, 86, 69], [], 0, 0, by decide, by decide, by decide, shp_34, shape_34, group_34⟩
  · exact ⟨[], [], 0, 0, by decide, by decide, by decide, shp_35, shape_35, group_35⟩
  · exact ⟨[], [], 0, 0, by decide, by decide, by decide, shp_36, shape_36, group_36⟩
  · exact ⟨[], [], 0, 0, by decide, by decide, by decide, shp_37, shape_37, group_37⟩
  · exact ⟨[], [], 80, 0, by decide, by decide, by decide, shp_38, shape_38, group_38⟩
def lets (its : List (UInt8 × UInt8)) : List Int := its.map fun p => ((p.1.toNat : Nat) : Int)
def leasts (its : List (UInt8 × UInt8)) : List Int := its.map fun p => if p.2 = 0 ∨ p.2 = 43 then 1 else 0
def mxB (k : Int) (i : Nat) : Bool := (decide (k = 9) && decide (i = 0)) || (decide (k = 10) && decide (i = 0)) || (decide (17 ≤ k) && decide (i = 1))
/-- A kind with groups. -/
theorem groups (k : Int) (h3 : k ∈ ([5, 9, 10, 17, 18] : List Int)) : ∃ its : List (UInt8 × UInt8), its.length ≤ 3 ∧ its ≠ [] ∧ (∀ p ∈ its, p.2 = 0 ∨ p.2 = 42 ∨ p.2 = 43 ∨ p.2 = 63) ∧ (∀ i (h : i < its.length), mxB k i = (decide (its[i].2 = 0) || decide (its[i].2 = 63))) ∧ (∀ l, shpB k l = G its l) ∧
    ∀ w, Calls Try.prog 16 #[.int .i64 k] w (GrpP (lets its) (leasts its) w) := by
  simp only [List.mem_cons, List.not_mem_nil, or_false] at h3
  rcases h3 with rfl | rfl | rfl | rfl | rfl
  · exact ⟨[(118, 42), (99, 43)], by decide, by decide, by decide, by decide, shp_5, group_5⟩
  · exact ⟨[(118, 0), (110, 42), (115, 42)], by decide, by decide, by decide, by decide, shp_9, group_9⟩
  · exact ⟨[(84, 0), (113, 42), (100, 42)], by decide, by decide, by decide, by decide, shp_10, group_10⟩
  · exact ⟨[(102, 42), (118, 63)], by decide, by decide, by decide, by decide, shp_17, group_17⟩
  · exact ⟨[(110, 42), (118, 63)], by decide, by decide, by decide, by decide, shp_18, group_18⟩
end Go.Proofs.Ytemdfhaceddmpaa.Tr
