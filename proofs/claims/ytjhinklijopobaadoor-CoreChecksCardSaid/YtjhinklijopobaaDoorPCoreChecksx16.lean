-- PRINTED BY print.sh 35421559b90ae4d0a3588c463048766b98c2df88dd9212a6774a882060cdf62d: not written by this session
import Derived.Test.YtjhinklijopobaaDoorPCoreChecksx0
import Derived.Test.YtjhinklijopobaaDoorPCoreChecksx14
import Derived.Test.YtjhinklijopobaaDoorPCoreChecksx15
namespace Go.Proofs.YtjhinklijopobaaDoor.PCoreChecks
open Go.RowKit Go.Proofs.YtjhinklijopobaaDoorW.PrintWords Go.Proofs.YtjhinklijopobaaDoorW.PrintLast Go.Proofs.YtjhinklijopobaaDoorW.PrintMore
attribute [local go_sem] max2_int min2_int max_two min_two max_three min_three max_four min_four   -- for this text's walks alone
set_option linter.unusedVariables false
set_option linter.unusedSimpArgs false

/-! ### provenanceref2_goodForm: function 76 -/
mutual
def provenanceref2_goodForm.j0 : Nat → Bool → Bool → Int → Int → List Int → List Int → List (S86) → Option (Bool)
  | 0, _, _, _, _, _, _, _ => none
  | k + 1, x2, x7, x293000, x293001, x293002, x293003, x293004 => if x293000 = 2 then (provenanceref2_goodForm.j1 k x2 x7 true x293000 x293001 x293002 x293003 x293004) else (if x293000 = 5 then (provenanceref2_goodForm.j1 k x2 x7 true x293000 x293001 x293002 x293003 x293004) else (if x293000 = 12 then (provenanceref2_goodForm.j1 k x2 x7 true x293000 x293001 x293002 x293003 x293004) else (provenanceref2_goodForm.j1 k x2 x7 (x293000 == 13) x293000 x293001 x293002 x293003 x293004)))
def provenanceref2_goodForm.j1 : Nat → Bool → Bool → Bool → Int → Int → List Int → List Int → List (S86) → Option (Bool)
  | 0, _, _, _, _, _, _, _, _ => none
  | k + 1, x2, x7, x8, x293000, x293001, x293002, x293003, x293004 => (provenanceref2_kidsOf.f k x293000 x293001 x293002 x293003 x293004).bind fun bt293 => (if x7 = true then (if x2 = true then (if x8 = true then (provenanceref2_goodForm.j2 k true x293000 x293001 x293002 x293003 x293004) else (if bt293.1 = (x293003.length : Int) then (if bt293.2 = true then ((provenanceref2_goodAlts.f k x293000 x293001 x293002 x293003 x293004).bind fun t295 => (provenanceref2_goodForm.j2 k (!t295) x293000 x293001 x293002 x293003 x293004)) else (if x293001 = 0 then ((provenanceref2_goodAlts.f k x293000 x293001 x293002 x293003 x293004).bind fun t296 => (provenanceref2_goodForm.j2 k (!t296) x293000 x293001 x293002 x293003 x293004)) else (provenanceref2_goodForm.j2 k true x293000 x293001 x293002 x293003 x293004))) else (provenanceref2_goodForm.j2 k true x293000 x293001 x293002 x293003 x293004))) else (provenanceref2_goodForm.j2 k true x293000 x293001 x293002 x293003 x293004)) else (if x8 = true then (if x2 = true then (provenanceref2_goodForm.j2 k true x293000 x293001 x293002 x293003 x293004) else (if bt293.1 = (x293003.length : Int) then (if bt293.2 = true then ((provenanceref2_goodAlts.f k x293000 x293001 x293002 x293003 x293004).bind fun t297 => (provenanceref2_goodForm.j2 k (!t297) x293000 x293001 x293002 x293003 x293004)) else (if x293001 = 0 then ((provenanceref2_goodAlts.f k x293000 x293001 x293002 x293003 x293004).bind fun t298 => (provenanceref2_goodForm.j2 k (!t298) x293000 x293001 x293002 x293003 x293004)) else (provenanceref2_goodForm.j2 k true x293000 x293001 x293002 x293003 x293004))) else (provenanceref2_goodForm.j2 k true x293000 x293001 x293002 x293003 x293004))) else (if bt293.1 = (x293003.length : Int) then (if bt293.2 = true then ((provenanceref2_goodAlts.f k x293000 x293001 x293002 x293003 x293004).bind fun t299 => (provenanceref2_goodForm.j2 k (!t299) x293000 x293001 x293002 x293003 x293004)) else (if x293001 = 0 then ((provenanceref2_goodAlts.f k x293000 x293001 x293002 x293003 x293004).bind fun t300 => (provenanceref2_goodForm.j2 k (!t300) x293000 x293001 x293002 x293003 x293004)) else (provenanceref2_goodForm.j2 k true x293000 x293001 x293002 x293003 x293004))) else (provenanceref2_goodForm.j2 k true x293000 x293001 x293002 x293003 x293004))))
def provenanceref2_goodForm.j2 : Nat → Bool → Int → Int → List Int → List Int → List (S86) → Option (Bool)
  | 0, _, _, _, _, _, _ => none
  | k + 1, x78, x293000, x293001, x293002, x293003, x293004 => if x78 = true then (some false) else (if x293000 = 2 then (provenanceref2_goodForm.j3 k x293000 (x293000 == 2) x293000 x293001 x293002 x293003 x293004) else (provenanceref2_goodForm.j3 k x293000 (x293000 == 9) x293000 x293001 x293002 x293003 x293004))
def provenanceref2_goodForm.j3 : Nat → Int → Bool → Int → Int → List Int → List Int → List (S86) → Option (Bool)
  | 0, _, _, _, _, _, _, _ => none
  | k + 1, x80, x81, x293000, x293001, x293002, x293003, x293004 => if x81 = true then (some true) else (if x80 = 4 then (some ((x293002.length : Int) == 1)) else (if x80 = 5 then (some (decide ((x293002.length : Int) > 0))) else (some ((x293002.length : Int) == 0))))
end
def provenanceref2_goodForm.f (k : Nat) (l0 : List (S28)) (a1_0 : Int) (a1_1 : Int) (l1_2 : List Int) (l1_3 : List Int) (l1_4 : List (S86)) (a2 : Bool) : Option (Bool) := if a1_0 = 14 then (provenanceref2_goodForm.j0 k a2 true a1_0 a1_1 l1_2 l1_3 l1_4) else (if a1_0 = 15 then (provenanceref2_goodForm.j0 k a2 true a1_0 a1_1 l1_2 l1_3 l1_4) else (provenanceref2_goodForm.j0 k a2 (a1_0 == 16) a1_0 a1_1 l1_2 l1_3 l1_4))
theorem provenanceref2_goodForm.mono_l : ∀ k, (∀ y0 y1 y2 y3 y4 y5 y6, LeO (provenanceref2_goodForm.j0 k y0 y1 y2 y3 y4 y5 y6) (provenanceref2_goodForm.j0 (k + 1) y0 y1 y2 y3 y4 y5 y6)) ∧ (∀ y0 y1 y2 y3 y4 y5 y6 y7, LeO (provenanceref2_goodForm.j1 k y0 y1 y2 y3 y4 y5 y6 y7) (provenanceref2_goodForm.j1 (k + 1) y0 y1 y2 y3 y4 y5 y6 y7)) ∧ (∀ y0 y1 y2 y3 y4 y5, LeO (provenanceref2_goodForm.j2 k y0 y1 y2 y3 y4 y5) (provenanceref2_goodForm.j2 (k + 1) y0 y1 y2 y3 y4 y5)) ∧ (∀ y0 y1 y2 y3 y4 y5 y6, LeO (provenanceref2_goodForm.j3 k y0 y1 y2 y3 y4 y5 y6) (provenanceref2_goodForm.j3 (k + 1) y0 y1 y2 y3 y4 y5 y6))
  | 0 => ⟨fun _ _ _ _ _ _ _ r h => by simp [provenanceref2_goodForm.j0] at h, fun _ _ _ _ _ _ _ _ r h => by simp [provenanceref2_goodForm.j1] at h, fun _ _ _ _ _ _ r h => by simp [provenanceref2_goodForm.j2] at h, fun _ _ _ _ _ _ _ r h => by simp [provenanceref2_goodForm.j3] at h⟩
  | k + 1 => by
    obtain ⟨ih0, ih1, ih2, ih3⟩ := provenanceref2_goodForm.mono_l k
    refine ⟨?_, ?_, ?_, ?_⟩
    · intro y0 y1 y2 y3 y4 y5 y6
      unfold provenanceref2_goodForm.j0
      repeat' first
      | (with_reducible exact ih0 _ _ _ _ _ _ _)
      | (with_reducible exact ih1 _ _ _ _ _ _ _ _)
      | (with_reducible exact ih2 _ _ _ _ _ _)
      | (with_reducible exact ih3 _ _ _ _ _ _ _)
      | (with_reducible exact provenanceref2_goodAlts.mono _ _ _ _ _ _)
      | (with_reducible exact provenanceref2_kidsOf.mono _ _ _ _ _ _)
      | (with_reducible exact LeO.refl _)
      | (with_reducible exact LeO.none _)
      | (with_reducible refine LeO.ite ?_ ?_)
      | (with_reducible refine LeO.bind ?_ (fun _ => ?_))
      | exact ih0 _ _ _ _ _ _ _
      | exact ih1 _ _ _ _ _ _ _ _
      | exact ih2 _ _ _ _ _ _
      | exact ih3 _ _ _ _ _ _ _
      | exact provenanceref2_goodAlts.mono _ _ _ _ _ _
      | exact provenanceref2_kidsOf.mono _ _ _ _ _ _
      | exact LeO.none _
      | refine LeO.ite ?_ ?_
      | refine LeO.bind ?_ (fun _ => ?_)
    · intro y0 y1 y2 y3 y4 y5 y6 y7
      unfold provenanceref2_goodForm.j1
      repeat' first
      | (with_reducible exact ih0 _ _ _ _ _ _ _)
      | (with_reducible exact ih1 _ _ _ _ _ _ _ _)
      | (with_reducible exact ih2 _ _ _ _ _ _)
      | (with_reducible exact ih3 _ _ _ _ _ _ _)
      | (with_reducible exact provenanceref2_goodAlts.mono _ _ _ _ _ _)
      | (with_reducible exact provenanceref2_kidsOf.mono _ _ _ _ _ _)
      | (with_reducible exact LeO.refl _)
      | (with_reducible exact LeO.none _)
      | (with_reducible refine LeO.ite ?_ ?_)
      | (with_reducible refine LeO.bind ?_ (fun _ => ?_))
      | exact ih0 _ _ _ _ _ _ _
      | exact ih1 _ _ _ _ _ _ _ _
      | exact ih2 _ _ _ _ _ _
      | exact ih3 _ _ _ _ _ _ _
      | exact provenanceref2_goodAlts.mono _ _ _ _ _ _
      | exact provenanceref2_kidsOf.mono _ _ _ _ _ _
      | exact LeO.none _
      | refine LeO.ite ?_ ?_
      | refine LeO.bind ?_ (fun _ => ?_)
    · intro y0 y1 y2 y3 y4 y5
      unfold provenanceref2_goodForm.j2
      repeat' first
      | (with_reducible exact ih0 _ _ _ _ _ _ _)
      | (with_reducible exact ih1 _ _ _ _ _ _ _ _)
      | (with_reducible exact ih2 _ _ _ _ _ _)
      | (with_reducible exact ih3 _ _ _ _ _ _ _)
      | (with_reducible exact provenanceref2_goodAlts.mono _ _ _ _ _ _)
      | (with_reducible exact provenanceref2_kidsOf.mono _ _ _ _ _ _)
      | (with_reducible exact LeO.refl _)
      | (with_reducible exact LeO.none _)
      | (with_reducible refine LeO.ite ?_ ?_)
      | (with_reducible refine LeO.bind ?_ (fun _ => ?_))
      | exact ih0 _ _ _ _ _ _ _
      | exact ih1 _ _ _ _ _ _ _ _
      | exact ih2 _ _ _ _ _ _
      | exact ih3 _ _ _ _ _ _ _
      | exact provenanceref2_goodAlts.mono _ _ _ _ _ _
      | exact provenanceref2_kidsOf.mono _ _ _ _ _ _
      | exact LeO.none _
      | refine LeO.ite ?_ ?_
      | refine LeO.bind ?_ (fun _ => ?_)
    · intro y0 y1 y2 y3 y4 y5 y6
      unfold provenanceref2_goodForm.j3
      repeat' first
      | (with_reducible exact ih0 _ _ _ _ _ _ _)
      | (with_reducible exact ih1 _ _ _ _ _ _ _ _)
      | (with_reducible exact ih2 _ _ _ _ _ _)
      | (with_reducible exact ih3 _ _ _ _ _ _ _)
      | (with_reducible exact provenanceref2_goodAlts.mono _ _ _ _ _ _)
      | (with_reducible exact provenanceref2_kidsOf.mono _ _ _ _ _ _)
      | (with_reducible exact LeO.refl _)
      | (with_reducible exact LeO.none _)
      | (with_reducible refine LeO.ite ?_ ?_)
      | (with_reducible refine LeO.bind ?_ (fun _ => ?_))
      | exact ih0 _ _ _ _ _ _ _
      | exact ih1 _ _ _ _ _ _ _ _
      | exact ih2 _ _ _ _ _ _
      | exact ih3 _ _ _ _ _ _ _
      | exact provenanceref2_goodAlts.mono _ _ _ _ _ _
      | exact provenanceref2_kidsOf.mono _ _ _ _ _ _
      | exact LeO.none _
      | refine LeO.ite ?_ ?_
      | refine LeO.bind ?_ (fun _ => ?_)
theorem provenanceref2_goodForm.mono : ∀ a0 a1 a2 a3 a4 a5 a6 k, LeO (provenanceref2_goodForm.f k a0 a1 a2 a3 a4 a5 a6) (provenanceref2_goodForm.f (k + 1) a0 a1 a2 a3 a4 a5 a6) := by
  intro a0 a1 a2 a3 a4 a5 a6 k
  obtain ⟨ih0, ih1, ih2, ih3⟩ := provenanceref2_goodForm.mono_l k
  unfold provenanceref2_goodForm.f
  repeat' first
      | (with_reducible exact ih0 _ _ _ _ _ _ _)
      | (with_reducible exact ih1 _ _ _ _ _ _ _ _)
      | (with_reducible exact ih2 _ _ _ _ _ _)
      | (with_reducible exact ih3 _ _ _ _ _ _ _)
      | (with_reducible exact provenanceref2_goodAlts.mono _ _ _ _ _ _)
      | (with_reducible exact provenanceref2_kidsOf.mono _ _ _ _ _ _)
      | (with_reducible exact LeO.refl _)
      | (with_reducible exact LeO.none _)
      | (with_reducible refine LeO.ite ?_ ?_)
      | (with_reducible refine LeO.bind ?_ (fun _ => ?_))
      | exact ih0 _ _ _ _ _ _ _
      | exact ih1 _ _ _ _ _ _ _ _
      | exact ih2 _ _ _ _ _ _
      | exact ih3 _ _ _ _ _ _ _
      | exact provenanceref2_goodAlts.mono _ _ _ _ _ _
      | exact provenanceref2_kidsOf.mono _ _ _ _ _ _
      | exact LeO.none _
      | refine LeO.ite ?_ ?_
      | refine LeO.bind ?_ (fun _ => ?_)
set_option maxHeartbeats 8000000 in
set_option maxRecDepth 100000 in
theorem provenanceref2_goodForm.calls (k : Nat) (A0 : Option Addr) (c0 : Nat) (l0 : List (S28)) (a1_0 : Int) (a1_1 : Int) (A1_2 : Option Addr) (c1_2 : Nat) (l1_2 : List Int) (A1_3 : Option Addr) (c1_3 : Nat) (l1_3 : List Int) (A1_4 : Option Addr) (c1_4 : Nat) (l1_4 : List (S86)) (a2 : Bool) (r : Bool) (w : World) (hr0 : Kd.C k28 w A0 l0.length l0) (hc0 : l0.length ≤ c0) (hr1_2 : Kd.C (Kd.int .i64) w A1_2 l1_2.length l1_2) (hc1_2 : l1_2.length ≤ c1_2) (hr1_3 : Kd.C (Kd.int .i64) w A1_3 l1_3.length l1_3) (hc1_3 : l1_3.length ≤ c1_3) (hr1_4 : Kd.C k86 w A1_4 l1_4.length l1_4) (hc1_4 : l1_4.length ≤ c1_4) (h : provenanceref2_goodForm.f k l0 a1_0 a1_1 l1_2 l1_3 l1_4 a2 = some r) :
    Calls Tryd.prog 76 #[.slice A0 l0.length c0, .agg #[.int .i64 a1_0, .int .i64 a1_1, .slice A1_2 l1_2.length c1_2, .slice A1_3 l1_3.length c1_3, .slice A1_4 l1_4.length c1_4], .bool a2] w fun e w' => e = .returned (.bool r) ∧ Below w.heap.size w w' := by
  have hu28 := Tryd.underlying28
  have HR0 := Aside0.mk hr0
  have HC0 := Aside0.mk hc0
  clear hr0 hc0
  have HR1_2 := Aside0.mk hr1_2
  have HC1_2 := Aside0.mk hc1_2
  clear hr1_2 hc1_2
  have HR1_3 := Aside0.mk hr1_3
  have HC1_3 := Aside0.mk hc1_3
  clear hr1_3 hc1_3
  have HR1_4 := Aside0.mk hr1_4
  have HC1_4 := Aside0.mk hc1_4
  clear hr1_4 hc1_4
  have HB := Aside0.mk (Below.refl w.heap.size w)
  have H : (if a1_0 = 14 then (provenanceref2_goodForm.j0 k a2 true a1_0 a1_1 l1_2 l1_3 l1_4) else (if a1_0 = 15 then (provenanceref2_goodForm.j0 k a2 true a1_0 a1_1 l1_2 l1_3 l1_4) else (provenanceref2_goodForm.j0 k a2 (a1_0 == 16) a1_0 a1_1 l1_2 l1_3 l1_4))) = some r := h
  clear h
  have HC4 := Aside0.mk H
  clear H
  go_enter Tryd.func76, Tryd.ntmps76
  go_upto_region 1 with (first | ((with_reducible refine gate_dst (N := 4) rfl ?_); (try (refine gate_guard (by rfl) ?_; dsimp only)); refine box_event ?hg (N := 4) ?hd (cs := #[.int .i64 a1_0, .int .i64 a1_1, .slice A1_2 l1_2.length c1_2, .slice A1_3 l1_3.length c1_3, .slice A1_4 l1_4.length c1_4]) (t := 28) ?hr ?_; (case hd => rfl); (case hg => rfl); (case hr => first | (go_simp; done) | (go_simp; rfl)); intro gb292 hg w5 hbox hb; have n0_ := Aside0.mk (below_step (by repeat (first | (with_reducible first | exact HB.out | apply below_alloc | apply pw_below_drewN | apply below_drew1) | exact HB.out)) hb); have n1_ := Aside0.mk (hbox); have n2_ := Aside0.mk ((by rw [hg]; exact (below_size (by repeat (first | (with_reducible first | exact HB.out | apply below_alloc | apply pw_below_drewN | apply below_drew1) | exact HB.out))) : w.heap.size ≤ gb292)); have n3_ := Aside0.mk ((by rw [hg]; exact (below_size (by repeat (first | (with_reducible first | exact HB.out | apply below_alloc | apply pw_below_drewN | apply below_drew1) | exact HB.out))) : w.heap.size ≤ gb292)); clear HB; have HB := n0_; have BK292 := n1_; have GW292 := n2_; have GE292 := n3_; clear n0_ n1_ n2_ n3_; clear hb hbox hg))
  (try simp only [Act.put, List.setIfInBounds_toArray, List.set_cons_zero, List.set_cons_succ])
  go_cut [7] (fun v7 wc => ∃ (kq : Nat) (x7_3 : Bool), v7 = .bool x7_3 ∧ Aside0 (provenanceref2_goodForm.j0 kq a2 x7_3 a1_0 a1_1 l1_2 l1_3 l1_4 = some r) ∧ Aside0 (kq ≤ k) ∧ Aside0 (wc.heap[gb292]? = some (.cells #[.int .i64 a1_0, .int .i64 a1_1, (.slice A1_2 l1_2.length c1_2), (.slice A1_3 l1_3.length c1_3), (.slice A1_4 l1_4.length c1_4)] 28 (0, 0))) ∧ Aside0 (Below w.heap.size w wc))
  case first =>
    have H := HC4.out
    clear HC4
    by_cases c6 : a1_0 = 14
    · rw [if_pos c6] at H
      have c6b0 : (a1_0 == 14) = true := beq_iff_eq.mpr c6
      have c6b1 : (a1_0 != 14) = false := bne_eq_false_iff_eq.mpr c6
      clear c6
      (first | rw [c6b0] | (simp only [i64_w, i32_w]; rw [c6b0]) | skip)
      have H' := Aside0.mk H
      clear H
      have hcz7_0 : w5.cell? ⟨gb292, 0, none⟩ = some (.int .i64 a1_0) := (blk_cell BK292.out 0).trans rfl
      have hcz7_1 : w5.cell? ⟨gb292, 1, none⟩ = some (.int .i64 a1_1) := (blk_cell BK292.out 1).trans rfl
      have hcz7_2 : w5.cell? ⟨gb292, 2, none⟩ = some (.slice A1_2 l1_2.length c1_2) := (blk_cell BK292.out 2).trans rfl
      have hcz7_3 : w5.cell? ⟨gb292, 3, none⟩ = some (.slice A1_3 l1_3.length c1_3) := (blk_cell BK292.out 3).trans rfl
      have hcz7_4 : w5.cell? ⟨gb292, 4, none⟩ = some (.slice A1_4 l1_4.length c1_4) := (blk_cell BK292.out 4).trans rfl
      have hfz7_0 := blk_frozen BK292.out 0
      have hfz7_1 := blk_frozen BK292.out 1
      have hfz7_2 := blk_frozen BK292.out 2
      have hfz7_3 := blk_frozen BK292.out 3
      have hfz7_4 := blk_frozen BK292.out 4
      go_wp2
      go_meet
      case rel => exact ⟨_, (true), (by first | rfl | (simp; done) | (simp [*]; done)), H', ⟨by first | omega | exact Nat.le_refl _⟩, ⟨by (with_reducible repeat (first | refine blk_drewN ?_ _ | refine blk_drew ?_ | refine blk_alloc ?_ _)); exact BK292.out⟩, ⟨by repeat (first | (with_reducible first | exact HB.out | apply below_alloc | apply pw_below_drewN | apply below_drew1 | refine below_set ?_ GE292.out) | exact HB.out)⟩⟩
    · rw [if_neg c6] at H
      have c6b0 : (a1_0 == 14) = false := beq_eq_false_iff_ne.mpr c6
      have c6b1 : (a1_0 != 14) = true := bne_iff_ne.mpr c6
      (first | rw [c6b0] | (simp only [i64_w, i32_w]; rw [c6b0]) | skip)
      by_cases c8 : a1_0 = 15
      · rw [if_pos c8] at H
        have c8b0 : (a1_0 == 15) = true := beq_iff_eq.mpr c8
        have c8b1 : (a1_0 != 15) = false := bne_eq_false_iff_eq.mpr c8
        clear c8
        have H' := Aside0.mk H
        clear H
        have hcz9_0 : w5.cell? ⟨gb292, 0, none⟩ = some (.int .i64 a1_0) := (blk_cell BK292.out 0).trans rfl
        have hcz9_1 : w5.cell? ⟨gb292, 1, none⟩ = some (.int .i64 a1_1) := (blk_cell BK292.out 1).trans rfl
        have hcz9_2 : w5.cell? ⟨gb292, 2, none⟩ = some (.slice A1_2 l1_2.length c1_2) := (blk_cell BK292.out 2).trans rfl
        have hcz9_3 : w5.cell? ⟨gb292, 3, none⟩ = some (.slice A1_3 l1_3.length c1_3) := (blk_cell BK292.out 3).trans rfl
        have hcz9_4 : w5.cell? ⟨gb292, 4, none⟩ = some (.slice A1_4 l1_4.length c1_4) := (blk_cell BK292.out 4).trans rfl
        have hfz9_0 := blk_frozen BK292.out 0
        have hfz9_1 := blk_frozen BK292.out 1
        have hfz9_2 := blk_frozen BK292.out 2
        have hfz9_3 := blk_frozen BK292.out 3
        have hfz9_4 := blk_frozen BK292.out 4
        go_wp2
        go_meet
        case rel => exact ⟨_, (true), (by first | rfl | (simp; done) | (simp [*]; done)), H', ⟨by first | omega | exact Nat.le_refl _⟩, ⟨by (with_reducible repeat (first | refine blk_drewN ?_ _ | refine blk_drew ?_ | refine blk_alloc ?_ _)); exact BK292.out⟩, ⟨by repeat (first | (with_reducible first | exact HB.out | apply below_alloc | apply pw_below_drewN | apply below_drew1 | refine below_set ?_ GE292.out) | exact HB.out)⟩⟩
      · rw [if_neg c8] at H
        have c8b0 : (a1_0 == 15) = false := beq_eq_false_iff_ne.mpr c8
        have c8b1 : (a1_0 != 15) = true := bne_iff_ne.mpr c8
        have H' := Aside0.mk H
        clear H
        have hcz10_0 : w5.cell? ⟨gb292, 0, none⟩ = some (.int .i64 a1_0) := (blk_cell BK292.out 0).trans rfl
        have hcz10_1 : w5.cell? ⟨gb292, 1, none⟩ = some (.int .i64 a1_1) := (blk_cell BK292.out 1).trans rfl
        have hcz10_2 : w5.cell? ⟨gb292, 2, none⟩ = some (.slice A1_2 l1_2.length c1_2) := (blk_cell BK292.out 2).trans rfl
        have hcz10_3 : w5.cell? ⟨gb292, 3, none⟩ = some (.slice A1_3 l1_3.length c1_3) := (blk_cell BK292.out 3).trans rfl
        have hcz10_4 : w5.cell? ⟨gb292, 4, none⟩ = some (.slice A1_4 l1_4.length c1_4) := (blk_cell BK292.out 4).trans rfl
        have hfz10_0 := blk_frozen BK292.out 0
        have hfz10_1 := blk_frozen BK292.out 1
        have hfz10_2 := blk_frozen BK292.out 2
        have hfz10_3 := blk_frozen BK292.out 3
        have hfz10_4 := blk_frozen BK292.out 4
        go_wp2
        go_meet
        case rel => exact ⟨_, ((a1_0 == 16)), (by first | rfl | (simp; done) | (simp [*]; done)), H', ⟨by first | omega | exact Nat.le_refl _⟩, ⟨by (with_reducible repeat (first | refine blk_drewN ?_ _ | refine blk_drew ?_ | refine blk_alloc ?_ _)); exact BK292.out⟩, ⟨by repeat (first | (with_reducible first | exact HB.out | apply below_alloc | apply pw_below_drewN | apply below_drew1 | refine below_set ?_ GE292.out) | exact HB.out)⟩⟩
  case rest =>
    clear HC4
    try clear c1
    try clear p2
    try clear c6
    try clear c6b0
    try clear c6b1
    try clear c7
    try clear c8
    try clear c8b0
    try clear c8b1
    try clear hcz10_0
    try clear hcz10_1
    try clear hcz10_2
    try clear hcz10_3
    try clear hcz10_4
    try clear hcz7_0
    try clear hcz7_1
    try clear hcz7_2
    try clear hcz7_3
    try clear hcz7_4
    try clear hcz9_0
    try clear hcz9_1
    try clear hcz9_2
    try clear hcz9_3
    try clear hcz9_4
    try clear hfz10_0
    try clear hfz10_1
    try clear hfz10_2
    try clear hfz10_3
    try clear hfz10_4
    try clear hfz7_0
    try clear hfz7_1
    try clear hfz7_2
    try clear hfz7_3
    try clear hfz7_4
    try clear hfz9_0
    try clear hfz9_1
    try clear hfz9_2
    try clear hfz9_3
    try clear hfz9_4
    obtain ⟨kq, x7_3, rfl, HA, HJ3, BK292, HB⟩ := hcut
    cases kq with
    | zero => exact absurd HA.out (by simp [provenanceref2_goodForm.j0])
    | succ kj3 =>
      have H := HA.out
      clear HA
      simp only [provenanceref2_goodForm.j0] at H
      have HC11 := Aside0.mk H
      clear H
      go_upto_region 2 with (fail)
      go_cut [8] (fun v8 wc => ∃ (kq : Nat) (x8_10 : Bool), v8 = .bool x8_10 ∧ Aside0 (provenanceref2_goodForm.j1 kq a2 x7_3 x8_10 a1_0 a1_1 l1_2 l1_3 l1_4 = some r) ∧ Aside0 (kq ≤ kj3) ∧ Aside0 (wc.heap[gb292]? = some (.cells #[.int .i64 a1_0, .int .i64 a1_1, (.slice A1_2 l1_2.length c1_2), (.slice A1_3 l1_3.length c1_3), (.slice A1_4 l1_4.length c1_4)] 28 (0, 0))) ∧ Aside0 (Below w.heap.size w wc))
      case first =>
        have H := HC11.out
        clear HC11
        by_cases c12 : a1_0 = 2
        · rw [if_pos c12] at H
          have c12b0 : (a1_0 == 2) = true := beq_iff_eq.mpr c12
          have c12b1 : (a1_0 != 2) = false := bne_eq_false_iff_eq.mpr c12
          clear c12
          (first | rw [c12b0] | (simp only [i64_w, i32_w]; rw [c12b0]) | skip)
          have H' := Aside0.mk H
          clear H
          have hcz13_0 : wc.cell? ⟨gb292, 0, none⟩ = some (.int .i64 a1_0) := (blk_cell BK292.out 0).trans rfl
          have hcz13_1 : wc.cell? ⟨gb292, 1, none⟩ = some (.int .i64 a1_1) := (blk_cell BK292.out 1).trans rfl
          have hcz13_2 : wc.cell? ⟨gb292, 2, none⟩ = some (.slice A1_2 l1_2.length c1_2) := (blk_cell BK292.out 2).trans rfl
          have hcz13_3 : wc.cell? ⟨gb292, 3, none⟩ = some (.slice A1_3 l1_3.length c1_3) := (blk_cell BK292.out 3).trans rfl
          have hcz13_4 : wc.cell? ⟨gb292, 4, none⟩ = some (.slice A1_4 l1_4.length c1_4) := (blk_cell BK292.out 4).trans rfl
          have hfz13_0 := blk_frozen BK292.out 0
          have hfz13_1 := blk_frozen BK292.out 1
          have hfz13_2 := blk_frozen BK292.out 2
          have hfz13_3 := blk_frozen BK292.out 3
          have hfz13_4 := blk_frozen BK292.out 4
          go_wp2
          go_meet
          case rel => exact ⟨_, (true), (by first | rfl | (simp; done) | (simp [*]; done)), H', ⟨by have := HJ3.out; first | omega | exact Nat.le_refl _⟩, ⟨by (with_reducible repeat (first | refine blk_drewN ?_ _ | refine blk_drew ?_ | refine blk_alloc ?_ _)); exact BK292.out⟩, ⟨by repeat (first | (with_reducible first | exact HB.out | apply below_alloc | apply pw_below_drewN | apply below_drew1 | refine below_set ?_ GE292.out) | exact HB.out)⟩⟩
        · rw [if_neg c12] at H
          have c12b0 : (a1_0 == 2) = false := beq_eq_false_iff_ne.mpr c12
          have c12b1 : (a1_0 != 2) = true := bne_iff_ne.mpr c12
          (first | rw [c12b0] | (simp only [i64_w, i32_w]; rw [c12b0]) | skip)
          by_cases c14 : a1_0 = 5
          · rw [if_pos c14] at H
            have c14b0 : (a1_0 == 5) = true := beq_iff_eq.mpr c14
            have c14b1 : (a1_0 != 5) = false := bne_eq_false_iff_eq.mpr c14
            clear c14
            have H' := Aside0.mk H
            clear H
            have hcz15_0 : wc.cell? ⟨gb292, 0, none⟩ = some (.int .i64 a1_0) := (blk_cell BK292.out 0).trans rfl
            have hcz15_1 : wc.cell? ⟨gb292, 1, none⟩ = some (.int .i64 a1_1) := (blk_cell BK292.out 1).trans rfl
            have hcz15_2 : wc.cell? ⟨gb292, 2, none⟩ = some (.slice A1_2 l1_2.length c1_2) := (blk_cell BK292.out 2).trans rfl
            have hcz15_3 : wc.cell? ⟨gb292, 3, none⟩ = some (.slice A1_3 l1_3.length c1_3) := (blk_cell BK292.out 3).trans rfl
            have hcz15_4 : wc.cell? ⟨gb292, 4, none⟩ = some (.slice A1_4 l1_4.length c1_4) := (blk_cell BK292.out 4).trans rfl
            have hfz15_0 := blk_frozen BK292.out 0
            have hfz15_1 := blk_frozen BK292.out 1
            have hfz15_2 := blk_frozen BK292.out 2
            have hfz15_3 := blk_frozen BK292.out 3
            have hfz15_4 := blk_frozen BK292.out 4
            go_wp2
            go_meet
            case rel => exact ⟨_, (true), (by first | rfl | (simp; done) | (simp [*]; done)), H', ⟨by have := HJ3.out; first | omega | exact Nat.le_refl _⟩, ⟨by (with_reducible repeat (first | refine blk_drewN ?_ _ | refine blk_drew ?_ | refine blk_alloc ?_ _)); exact BK292.out⟩, ⟨by repeat (first | (with_reducible first | exact HB.out | apply below_alloc | apply pw_below_drewN | apply below_drew1 | refine below_set ?_ GE292.out) | exact HB.out)⟩⟩
          · rw [if_neg c14] at H
            have c14b0 : (a1_0 == 5) = false := beq_eq_false_iff_ne.mpr c14
            have c14b1 : (a1_0 != 5) = true := bne_iff_ne.mpr c14
            by_cases c16 : a1_0 = 12
            · rw [if_pos c16] at H
              have c16b0 : (a1_0 == 12) = true := beq_iff_eq.mpr c16
              have c16b1 : (a1_0 != 12) = false := bne_eq_false_iff_eq.mpr c16
              clear c16
              have H' := Aside0.mk H
              clear H
              have hcz17_0 : wc.cell? ⟨gb292, 0, none⟩ = some (.int .i64 a1_0) := (blk_cell BK292.out 0).trans rfl
              have hcz17_1 : wc.cell? ⟨gb292, 1, none⟩ = some (.int .i64 a1_1) := (blk_cell BK292.out 1).trans rfl
              have hcz17_2 : wc.cell? ⟨gb292, 2, none⟩ = some (.slice A1_2 l1_2.length c1_2) := (blk_cell BK292.out 2).trans rfl
              have hcz17_3 : wc.cell? ⟨gb292, 3, none⟩ = some (.slice A1_3 l1_3.length c1_3) := (blk_cell BK292.out 3).trans rfl
              have hcz17_4 : wc.cell? ⟨gb292, 4, none⟩ = some (.slice A1_4 l1_4.length c1_4) := (blk_cell BK292.out 4).trans rfl
              have hfz17_0 := blk_frozen BK292.out 0
              have hfz17_1 := blk_frozen BK292.out 1
              have hfz17_2 := blk_frozen BK292.out 2
              have hfz17_3 := blk_frozen BK292.out 3
              have hfz17_4 := blk_frozen BK292.out 4
              go_wp2
              go_meet
              case rel => exact ⟨_, (true), (by first | rfl | (simp; done) | (simp [*]; done)), H', ⟨by have := HJ3.out; first | omega | exact Nat.le_refl _⟩, ⟨by (with_reducible repeat (first | refine blk_drewN ?_ _ | refine blk_drew ?_ | refine blk_alloc ?_ _)); exact BK292.out⟩, ⟨by repeat (first | (with_reducible first | exact HB.out | apply below_alloc | apply pw_below_drewN | apply below_drew1 | refine below_set ?_ GE292.out) | exact HB.out)⟩⟩
            · rw [if_neg c16] at H
              have c16b0 : (a1_0 == 12) = false := beq_eq_false_iff_ne.mpr c16
              have c16b1 : (a1_0 != 12) = true := bne_iff_ne.mpr c16
              have H' := Aside0.mk H
              clear H
              have hcz18_0 : wc.cell? ⟨gb292, 0, none⟩ = some (.int .i64 a1_0) := (blk_cell BK292.out 0).trans rfl
              have hcz18_1 : wc.cell? ⟨gb292, 1, none⟩ = some (.int .i64 a1_1) := (blk_cell BK292.out 1).trans rfl
              have hcz18_2 : wc.cell? ⟨gb292, 2, none⟩ = some (.slice A1_2 l1_2.length c1_2) := (blk_cell BK292.out 2).trans rfl
              have hcz18_3 : wc.cell? ⟨gb292, 3, none⟩ = some (.slice A1_3 l1_3.length c1_3) := (blk_cell BK292.out 3).trans rfl
              have hcz18_4 : wc.cell? ⟨gb292, 4, none⟩ = some (.slice A1_4 l1_4.length c1_4) := (blk_cell BK292.out 4).trans rfl
              have hfz18_0 := blk_frozen BK292.out 0
              have hfz18_1 := blk_frozen BK292.out 1
              have hfz18_2 := blk_frozen BK292.out 2
              have hfz18_3 := blk_frozen BK292.out 3
              have hfz18_4 := blk_frozen BK292.out 4
              go_wp2
              go_meet
              case rel => exact ⟨_, ((a1_0 == 13)), (by first | rfl | (simp; done) | (simp [*]; done)), H', ⟨by have := HJ3.out; first | omega | exact Nat.le_refl _⟩, ⟨by (with_reducible repeat (first | refine blk_drewN ?_ _ | refine blk_drew ?_ | refine blk_alloc ?_ _)); exact BK292.out⟩, ⟨by repeat (first | (with_reducible first | exact HB.out | apply below_alloc | apply pw_below_drewN | apply below_drew1 | refine below_set ?_ GE292.out) | exact HB.out)⟩⟩
      case rest =>
        clear HC11
        try clear c1
        try clear p2
        try clear c6
        try clear c6b0
        try clear c6b1
        try clear c7
        try clear c8
        try clear c8b0
        try clear c8b1
        try clear c12
        try clear c12b0
        try clear c12b1
        try clear c14
        try clear c14b0
        try clear c14b1
        try clear c16
        try clear c16b0
        try clear c16b1
        try clear hcz10_0
        try clear hcz10_1
        try clear hcz10_2
        try clear hcz10_3
        try clear hcz10_4
        try clear hcz13_0
        try clear hcz13_1
        try clear hcz13_2
        try clear hcz13_3
        try clear hcz13_4
        try clear hcz15_0
        try clear hcz15_1
        try clear hcz15_2
        try clear hcz15_3
        try clear hcz15_4
        try clear hcz17_0
        try clear hcz17_1
        try clear hcz17_2
        try clear hcz17_3
        try clear hcz17_4
        try clear hcz18_0
        try clear hcz18_1
        try clear hcz18_2
        try clear hcz18_3
        try clear hcz18_4
        try clear hcz7_0
        try clear hcz7_1
        try clear hcz7_2
        try clear hcz7_3
        try clear hcz7_4
        try clear hcz9_0
        try clear hcz9_1
        try clear hcz9_2
        try clear hcz9_3
        try clear hcz9_4
        try clear hfz10_0
        try clear hfz10_1
        try clear hfz10_2
        try clear hfz10_3
        try clear hfz10_4
        try clear hfz13_0
        try clear hfz13_1
        try clear hfz13_2
        try clear hfz13_3
        try clear hfz13_4
        try clear hfz15_0
        try clear hfz15_1
        try clear hfz15_2
        try clear hfz15_3
        try clear hfz15_4
        try clear hfz17_0
        try clear hfz17_1
        try clear hfz17_2
        try clear hfz17_3
        try clear hfz17_4
        try clear hfz18_0
        try clear hfz18_1
        try clear hfz18_2
        try clear hfz18_3
        try clear hfz18_4
        try clear hfz7_0
        try clear hfz7_1
        try clear hfz7_2
        try clear hfz7_3
        try clear hfz7_4
        try clear hfz9_0
        try clear hfz9_1
        try clear hfz9_2
        try clear hfz9_3
        try clear hfz9_4
        try clear p2
        obtain ⟨kq, x8_10, rfl, HA, HJ10, BK292, HB⟩ := hcut
        cases kq with
        | zero => exact absurd HA.out (by simp [provenanceref2_goodForm.j1])
        | succ kj10 =>
          have H := HA.out
          clear HA
          simp only [provenanceref2_goodForm.j1] at H
          replace H := Option.bind_eq_some_iff.mp H
          obtain ⟨⟨t293, t294⟩, A190, H⟩ := H
          replace H : (if x7_3 = true then (if a2 = true then (if x8_10 = true then (provenanceref2_goodForm.j2 kj10 true a1_0 a1_1 l1_2 l1_3 l1_4) else (if t293 = (l1_3.length : Int) then (if t294 = true then ((provenanceref2_goodAlts.f kj10 a1_0 a1_1 l1_2 l1_3 l1_4).bind fun t295 => (provenanceref2_goodForm.j2 kj10 (!t295) a1_0 a1_1 l1_2 l1_3 l1_4)) else (if a1_1 = 0 then ((provenanceref2_goodAlts.f kj10 a1_0 a1_1 l1_2 l1_3 l1_4).bind fun t296 => (provenanceref2_goodForm.j2 kj10 (!t296) a1_0 a1_1 l1_2 l1_3 l1_4)) else (provenanceref2_goodForm.j2 kj10 true a1_0 a1_1 l1_2 l1_3 l1_4))) else (provenanceref2_goodForm.j2 kj10 true a1_0 a1_1 l1_2 l1_3 l1_4))) else (provenanceref2_goodForm.j2 kj10 true a1_0 a1_1 l1_2 l1_3 l1_4)) else (if x8_10 = true then (if a2 = true then (provenanceref2_goodForm.j2 kj10 true a1_0 a1_1 l1_2 l1_3 l1_4) else (if t293 = (l1_3.length : Int) then (if t294 = true then ((provenanceref2_goodAlts.f kj10 a1_0 a1_1 l1_2 l1_3 l1_4).bind fun t297 => (provenanceref2_goodForm.j2 kj10 (!t297) a1_0 a1_1 l1_2 l1_3 l1_4)) else (if a1_1 = 0 then ((provenanceref2_goodAlts.f kj10 a1_0 a1_1 l1_2 l1_3 l1_4).bind fun t298 => (provenanceref2_goodForm.j2 kj10 (!t298) a1_0 a1_1 l1_2 l1_3 l1_4)) else (provenanceref2_goodForm.j2 kj10 true a1_0 a1_1 l1_2 l1_3 l1_4))) else (provenanceref2_goodForm.j2 kj10 true a1_0 a1_1 l1_2 l1_3 l1_4))) else (if t293 = (l1_3.length : Int) then (if t294 = true then ((provenanceref2_goodAlts.f kj10 a1_0 a1_1 l1_2 l1_3 l1_4).bind fun t299 => (provenanceref2_goodForm.j2 kj10 (!t299) a1_0 a1_1 l1_2 l1_3 l1_4)) else (if a1_1 = 0 then ((provenanceref2_goodAlts.f kj10 a1_0 a1_1 l1_2 l1_3 l1_4).bind fun t300 => (provenanceref2_goodForm.j2 kj10 (!t300) a1_0 a1_1 l1_2 l1_3 l1_4)) else (provenanceref2_goodForm.j2 kj10 true a1_0 a1_1 l1_2 l1_3 l1_4))) else (provenanceref2_goodForm.j2 kj10 true a1_0 a1_1 l1_2 l1_3 l1_4)))) = some r := H
          have A19 := Aside0.mk A190
          clear A190
          have HC20 := Aside0.mk H
          clear H
          have hcz21_0 : wc.cell? ⟨gb292, 0, none⟩ = some (.int .i64 a1_0) := (blk_cell BK292.out 0).trans rfl
          have hcz21_1 : wc.cell? ⟨gb292, 1, none⟩ = some (.int .i64 a1_1) := (blk_cell BK292.out 1).trans rfl
          have hcz21_2 : wc.cell? ⟨gb292, 2, none⟩ = some (.slice A1_2 l1_2.length c1_2) := (blk_cell BK292.out 2).trans rfl
          have hcz21_3 : wc.cell? ⟨gb292, 3, none⟩ = some (.slice A1_3 l1_3.length c1_3) := (blk_cell BK292.out 3).trans rfl
          have hcz21_4 : wc.cell? ⟨gb292, 4, none⟩ = some (.slice A1_4 l1_4.length c1_4) := (blk_cell BK292.out 4).trans rfl
          have hfz21_0 := blk_frozen BK292.out 0
          have hfz21_1 := blk_frozen BK292.out 1
          have hfz21_2 := blk_frozen BK292.out 2
          have hfz21_3 := blk_frozen BK292.out 3
          have hfz21_4 := blk_frozen BK292.out 4
          go_upto_region 4 with (first | ((with_reducible refine gate_callee (f := 104) rfl ?_); refine goesL_ (some 44) rfl rfl Tryd.func104 (by kernel_rfl) rfl #[.agg #[.int .i64 a1_0, .int .i64 a1_1, .slice A1_2 l1_2.length c1_2, .slice A1_3 l1_3.length c1_3, .slice A1_4 l1_4.length c1_4]] rfl (by (try simp only [List.map_toArray, List.map_cons, List.map_nil]); first | done | rfl | (simp only [List.length_drop, List.length_take]; rfl)) ?_; (with_reducible refine (provenanceref2_kidsOf.calls kj10 a1_0 a1_1 _ _ l1_2 _ _ l1_3 _ _ l1_4 t293 t294 _ ?side1 ?side2 ?side3 ?side4 ?side5 ?side6 A19.out).mono ?_); (case side1 => repeat (first | exact (Kd.C_below HR1_2.out HB.out) | (with_reducible refine Kd.C_alloc ?_ _) | (with_reducible refine Kd.C_drewN ?_ _) | (with_reducible refine Kd.C_drew ?_))); (case side2 => exact HC1_2.out); (case side3 => repeat (first | exact (Kd.C_below HR1_3.out HB.out) | (with_reducible refine Kd.C_alloc ?_ _) | (with_reducible refine Kd.C_drewN ?_ _) | (with_reducible refine Kd.C_drew ?_))); (case side4 => exact HC1_3.out); (case side5 => repeat (first | exact (Kd.C_below HR1_4.out HB.out) | (with_reducible refine Kd.C_alloc ?_ _) | (with_reducible refine Kd.C_drewN ?_ _) | (with_reducible refine Kd.C_drew ?_))); (case side6 => exact HC1_4.out); rintro e w22 ⟨rfl, hb⟩; refine ⟨_, rfl, ?_⟩; have n0_ := Aside0.mk (blk_below (g := gb292) (o := .cells #[.int .i64 a1_0, .int .i64 a1_1, .slice A1_2 l1_2.length c1_2, .slice A1_3 l1_3.length c1_3, .slice A1_4 l1_4.length c1_4] 28 (0, 0)) (by (with_reducible repeat (first | refine blk_drewN ?_ _ | refine blk_drew ?_ | refine blk_alloc ?_ _)); exact BK292.out) hb); have n1_ := Aside0.mk (below_step (by repeat (first | (with_reducible first | exact HB.out | apply below_alloc | apply pw_below_drewN | apply below_drew1 | refine below_set ?_ GE292.out) | exact HB.out)) hb); clear BK292; clear HB; have BK292 := n0_; have HB := n1_; clear n0_ n1_; (try clear hb); (try clear hb2); (try clear hk); (try clear hi)))
          (try simp only [Act.put, List.setIfInBounds_toArray, List.set_cons_zero, List.set_cons_succ])
          go_cut [78] (fun v78 wc => ∃ (kq : Nat) (x78_19 : Bool), v78 = .bool x78_19 ∧ Aside0 (provenanceref2_goodForm.j2 kq x78_19 a1_0 a1_1 l1_2 l1_3 l1_4 = some r) ∧ Aside0 (kq ≤ kj10) ∧ Aside0 (wc.heap[gb292]? = some (.cells #[.int .i64 a1_0, .int .i64 a1_1, (.slice A1_2 l1_2.length c1_2), (.slice A1_3 l1_3.length c1_3), (.slice A1_4 l1_4.length c1_4)] 28 (0, 0))) ∧ Aside0 (Below w.heap.size w wc))
          case first =>
            have H := HC20.out
            clear HC20
            by_cases c23 : x7_3 = true
            · subst c23
              have H1 : (if a2 = true then (if x8_10 = true then (provenanceref2_goodForm.j2 kj10 true a1_0 a1_1 l1_2 l1_3 l1_4) else (if t293 = (l1_3.length : Int) then (if t294 = true then ((provenanceref2_goodAlts.f kj10 a1_0 a1_1 l1_2 l1_3 l1_4).bind fun t295 => (provenanceref2_goodForm.j2 kj10 (!t295) a1_0 a1_1 l1_2 l1_3 l1_4)) else (if a1_1 = 0 then ((provenanceref2_goodAlts.f kj10 a1_0 a1_1 l1_2 l1_3 l1_4).bind fun t296 => (provenanceref2_goodForm.j2 kj10 (!t296) a1_0 a1_1 l1_2 l1_3 l1_4)) else (provenanceref2_goodForm.j2 kj10 true a1_0 a1_1 l1_2 l1_3 l1_4))) else (provenanceref2_goodForm.j2 kj10 true a1_0 a1_1 l1_2 l1_3 l1_4))) else (provenanceref2_goodForm.j2 kj10 true a1_0 a1_1 l1_2 l1_3 l1_4)) = some r := by rw [if_pos rfl] at H; exact H
              clear H
              have H := H1
              clear H1
              by_cases c24 : a2 = true
              · subst c24
                have H1 : (if x8_10 = true then (provenanceref2_goodForm.j2 kj10 true a1_0 a1_1 l1_2 l1_3 l1_4) else (if t293 = (l1_3.length : Int) then (if t294 = true then ((provenanceref2_goodAlts.f kj10 a1_0 a1_1 l1_2 l1_3 l1_4).bind fun t295 => (provenanceref2_goodForm.j2 kj10 (!t295) a1_0 a1_1 l1_2 l1_3 l1_4)) else (if a1_1 = 0 then ((provenanceref2_goodAlts.f kj10 a1_0 a1_1 l1_2 l1_3 l1_4).bind fun t296 => (provenanceref2_goodForm.j2 kj10 (!t296) a1_0 a1_1 l1_2 l1_3 l1_4)) else (provenanceref2_goodForm.j2 kj10 true a1_0 a1_1 l1_2 l1_3 l1_4))) else (provenanceref2_goodForm.j2 kj10 true a1_0 a1_1 l1_2 l1_3 l1_4))) = some r := by rw [if_pos rfl] at H; exact H
                clear H
                have H := H1
                clear H1
                by_cases c25 : x8_10 = true
                · subst c25
                  have H1 : (provenanceref2_goodForm.j2 kj10 true a1_0 a1_1 l1_2 l1_3 l1_4) = some r := by rw [if_pos rfl] at H; exact H
                  clear H
                  have H := H1
                  clear H1
                  have H' := Aside0.mk H
                  clear H
                  go_wp2
                  go_meet
                  case rel => exact ⟨_, (true), (by first | rfl | (simp; done) | (simp [*]; done)), H', ⟨by have := HJ3.out; have := HJ10.out; first | omega | exact Nat.le_refl _⟩, ⟨by (with_reducible repeat (first | refine blk_drewN ?_ _ | refine blk_drew ?_ | refine blk_alloc ?_ _)); exact BK292.out⟩, ⟨by repeat (first | (with_reducible first | exact HB.out | apply below_alloc | apply pw_below_drewN | apply below_drew1 | refine below_set ?_ GE292.out) | exact HB.out)⟩⟩
                · replace c25 := Bool.eq_false_iff.mpr c25
                  subst c25
                  have H1 : (if t293 = (l1_3.length : Int) then (if t294 = true then ((provenanceref2_goodAlts.f kj10 a1_0 a1_1 l1_2 l1_3 l1_4).bind fun t295 => (provenanceref2_goodForm.j2 kj10 (!t295) a1_0 a1_1 l1_2 l1_3 l1_4)) else (if a1_1 = 0 then ((provenanceref2_goodAlts.f kj10 a1_0 a1_1 l1_2 l1_3 l1_4).bind fun t296 => (provenanceref2_goodForm.j2 kj10 (!t296) a1_0 a1_1 l1_2 l1_3 l1_4)) else (provenanceref2_goodForm.j2 kj10 true a1_0 a1_1 l1_2 l1_3 l1_4))) else (provenanceref2_goodForm.j2 kj10 true a1_0 a1_1 l1_2 l1_3 l1_4)) = some r := by rw [if_neg (show ¬ (false = true) by decide)] at H; exact H
                  clear H
                  have H := H1
                  clear H1
                  by_cases c26 : t293 = (l1_3.length : Int)
                  · rw [if_pos c26] at H
                    have c26b0 : (t293 == (l1_3.length : Int)) = true := beq_iff_eq.mpr c26
                    have c26b1 : (t293 != (l1_3.length : Int)) = false := bne_eq_false_iff_eq.mpr c26
                    clear c26
                    (first | rw [c26b0] | (simp only [i64_w, i32_w]; rw [c26b0]) | skip)
                    by_cases c27 : t294 = true
                    · subst c27
                      have H1 : ((provenanceref2_goodAlts.f kj10 a1_0 a1_1 l1_2 l1_3 l1_4).bind fun t295 => (provenanceref2_goodForm.j2 kj10 (!t295) a1_0 a1_1 l1_2 l1_3 l1_4)) = some r := by rw [if_pos rfl] at H; exact H
                      clear H
                      have H := H1
                      clear H1
                      replace H := Option.bind_eq_some_iff.mp H
                      obtain ⟨t295, A280, H⟩ := H
                      replace H : (provenanceref2_goodForm.j2 kj10 (!t295) a1_0 a1_1 l1_2 l1_3 l1_4) = some r := H
                      have A28 := Aside0.mk A280
                      clear A280
                      have H' := Aside0.mk H
                      clear H
                      have hcz29_0 : w22.cell? ⟨gb292, 0, none⟩ = some (.int .i64 a1_0) := (blk_cell BK292.out 0).trans rfl
                      have hcz29_1 : w22.cell? ⟨gb292, 1, none⟩ = some (.int .i64 a1_1) := (blk_cell BK292.out 1).trans rfl
                      have hcz29_2 : w22.cell? ⟨gb292, 2, none⟩ = some (.slice A1_2 l1_2.length c1_2) := (blk_cell BK292.out 2).trans rfl
                      have hcz29_3 : w22.cell? ⟨gb292, 3, none⟩ = some (.slice A1_3 l1_3.length c1_3) := (blk_cell BK292.out 3).trans rfl
                      have hcz29_4 : w22.cell? ⟨gb292, 4, none⟩ = some (.slice A1_4 l1_4.length c1_4) := (blk_cell BK292.out 4).trans rfl
                      have hfz29_0 := blk_frozen BK292.out 0
                      have hfz29_1 := blk_frozen BK292.out 1
                      have hfz29_2 := blk_frozen BK292.out 2
                      have hfz29_3 := blk_frozen BK292.out 3
                      have hfz29_4 := blk_frozen BK292.out 4
                      go_wp2_with (first | (go_at_call 105; (with_reducible refine (provenanceref2_goodAlts.calls kj10 a1_0 a1_1 _ _ l1_2 _ _ l1_3 _ _ l1_4 t295 _ ?side1 ?side2 ?side3 ?side4 ?side5 ?side6 A28.out).mono ?_); (case side1 => repeat (first | exact (Kd.C_below HR1_2.out HB.out) | (with_reducible refine Kd.C_alloc ?_ _) | (with_reducible refine Kd.C_drewN ?_ _) | (with_reducible refine Kd.C_drew ?_))); (case side2 => exact HC1_2.out); (case side3 => repeat (first | exact (Kd.C_below HR1_3.out HB.out) | (with_reducible refine Kd.C_alloc ?_ _) | (with_reducible refine Kd.C_drewN ?_ _) | (with_reducible refine Kd.C_drew ?_))); (case side4 => exact HC1_3.out); (case side5 => repeat (first | exact (Kd.C_below HR1_4.out HB.out) | (with_reducible refine Kd.C_alloc ?_ _) | (with_reducible refine Kd.C_drewN ?_ _) | (with_reducible refine Kd.C_drew ?_))); (case side6 => exact HC1_4.out); rintro e w30 ⟨rfl, hb⟩; have n0_ := Aside0.mk (blk_below (g := gb292) (o := .cells #[.int .i64 a1_0, .int .i64 a1_1, .slice A1_2 l1_2.length c1_2, .slice A1_3 l1_3.length c1_3, .slice A1_4 l1_4.length c1_4] 28 (0, 0)) (by (with_reducible repeat (first | refine blk_drewN ?_ _ | refine blk_drew ?_ | refine blk_alloc ?_ _)); exact BK292.out) hb); have n1_ := Aside0.mk (below_step (by repeat (first | (with_reducible first | exact HB.out | apply below_alloc | apply pw_below_drewN | apply below_drew1 | refine below_set ?_ GE292.out) | exact HB.out)) hb); clear BK292; clear HB; have BK292 := n0_; have HB := n1_; clear n0_ n1_; (try clear hb); (try clear hb2); (try clear hk); (try clear hi)))
                      go_meet
                      case rel => exact ⟨_, (!t295), (by first | rfl | (simp; done) | (simp [*]; done)), H', ⟨by have := HJ3.out; have := HJ10.out; first | omega | exact Nat.le_refl _⟩, ⟨by (with_reducible repeat (first | refine blk_drewN ?_ _ | refine blk_drew ?_ | refine blk_alloc ?_ _)); exact BK292.out⟩, ⟨by repeat (first | (with_reducible first | exact HB.out | apply below_alloc | apply pw_below_drewN | apply below_drew1 | refine below_set ?_ GE292.out) | exact HB.out)⟩⟩
                    · replace c27 := Bool.eq_false_iff.mpr c27
                      subst c27
                      have H1 : (if a1_1 = 0 then ((provenanceref2_goodAlts.f kj10 a1_0 a1_1 l1_2 l1_3 l1_4).bind fun t296 => (provenanceref2_goodForm.j2 kj10 (!t296) a1_0 a1_1 l1_2 l1_3 l1_4)) else (provenanceref2_goodForm.j2 kj10 true a1_0 a1_1 l1_2 l1_3 l1_4)) = some r := by rw [if_neg (show ¬ (false = true) by decide)] at H; exact H
                      clear H
                      have H := H1
                      clear H1
                      by_cases c31 : a1_1 = 0
                      · rw [if_pos c31] at H
                        have c31b0 : (a1_1 == 0) = true := beq_iff_eq.mpr c31
                        have c31b1 : (a1_1 != 0) = false := bne_eq_false_iff_eq.mpr c31
                        clear c31
                        replace H := Option.bind_eq_some_iff.mp H
                        obtain ⟨t296, A320, H⟩ := H
                        replace H : (provenanceref2_goodForm.j2 kj10 (!t296) a1_0 a1_1 l1_2 l1_3 l1_4) = some r := H
                        have A32 := Aside0.mk A320
                        clear A320
                        have H' := Aside0.mk H
                        clear H
                        have hcz33_0 : w22.cell? ⟨gb292, 0, none⟩ = some (.int .i64 a1_0) := (blk_cell BK292.out 0).trans rfl
                        have hcz33_1 : w22.cell? ⟨gb292, 1, none⟩ = some (.int .i64 a1_1) := (blk_cell BK292.out 1).trans rfl
                        have hcz33_2 : w22.cell? ⟨gb292, 2, none⟩ = some (.slice A1_2 l1_2.length c1_2) := (blk_cell BK292.out 2).trans rfl
                        have hcz33_3 : w22.cell? ⟨gb292, 3, none⟩ = some (.slice A1_3 l1_3.length c1_3) := (blk_cell BK292.out 3).trans rfl
                        have hcz33_4 : w22.cell? ⟨gb292, 4, none⟩ = some (.slice A1_4 l1_4.length c1_4) := (blk_cell BK292.out 4).trans rfl
                        have hfz33_0 := blk_frozen BK292.out 0
                        have hfz33_1 := blk_frozen BK292.out 1
                        have hfz33_2 := blk_frozen BK292.out 2
                        have hfz33_3 := blk_frozen BK292.out 3
                        have hfz33_4 := blk_frozen BK292.out 4
                        go_wp2_with (first | (go_at_call 105; (with_reducible refine (provenanceref2_goodAlts.calls kj10 a1_0 a1_1 _ _ l1_2 _ _ l1_3 _ _ l1_4 t296 _ ?side1 ?side2 ?side3 ?side4 ?side5 ?side6 A32.out).mono ?_); (case side1 => repeat (first | exact (Kd.C_below HR1_2.out HB.out) | (with_reducible refine Kd.C_alloc ?_ _) | (with_reducible refine Kd.C_drewN ?_ _) | (with_reducible refine Kd.C_drew ?_))); (case side2 => exact HC1_2.out); (case side3 => repeat (first | exact (Kd.C_below HR1_3.out HB.out) | (with_reducible refine Kd.C_alloc ?_ _) | (with_reducible refine Kd.C_drewN ?_ _) | (with_reducible refine Kd.C_drew ?_))); (case side4 => exact HC1_3.out); (case side5 => repeat (first | exact (Kd.C_below HR1_4.out HB.out) | (with_reducible refine Kd.C_alloc ?_ _) | (with_reducible refine Kd.C_drewN ?_ _) | (with_reducible refine Kd.C_drew ?_))); (case side6 => exact HC1_4.out); rintro e w34 ⟨rfl, hb⟩; have n0_ := Aside0.mk (blk_below (g := gb292) (o := .cells #[.int .i64 a1_0, .int .i64 a1_1, .slice A1_2 l1_2.length c1_2, .slice A1_3 l1_3.length c1_3, .slice A1_4 l1_4.length c1_4] 28 (0, 0)) (by (with_reducible repeat (first | refine blk_drewN ?_ _ | refine blk_drew ?_ | refine blk_alloc ?_ _)); exact BK292.out) hb); have n1_ := Aside0.mk (below_step (by repeat (first | (with_reducible first | exact HB.out | apply below_alloc | apply pw_below_drewN | apply below_drew1 | refine below_set ?_ GE292.out) | exact HB.out)) hb); clear BK292; clear HB; have BK292 := n0_; have HB := n1_; clear n0_ n1_; (try clear hb); (try clear hb2); (try clear hk); (try clear hi)))
                        go_meet
                        case rel => exact ⟨_, (!t296), (by first | rfl | (simp; done) | (simp [*]; done)), H', ⟨by have := HJ3.out; have := HJ10.out; first | omega | exact Nat.le_refl _⟩, ⟨by (with_reducible repeat (first | refine blk_drewN ?_ _ | refine blk_drew ?_ | refine blk_alloc ?_ _)); exact BK292.out⟩, ⟨by repeat (first | (with_reducible first | exact HB.out | apply below_alloc | apply pw_below_drewN | apply below_drew1 | refine below_set ?_ GE292.out) | exact HB.out)⟩⟩
                      · rw [if_neg c31] at H
                        have c31b0 : (a1_1 == 0) = false := beq_eq_false_iff_ne.mpr c31
                        have c31b1 : (a1_1 != 0) = true := bne_iff_ne.mpr c31
                        have H' := Aside0.mk H
                        clear H
                        have hcz35_0 : w22.cell? ⟨gb292, 0, none⟩ = some (.int .i64 a1_0) := (blk_cell BK292.out 0).trans rfl
                        have hcz35_1 : w22.cell? ⟨gb292, 1, none⟩ = some (.int .i64 a1_1) := (blk_cell BK292.out 1).trans rfl
                        have hcz35_2 : w22.cell? ⟨gb292, 2, none⟩ = some (.slice A1_2 l1_2.length c1_2) := (blk_cell BK292.out 2).trans rfl
                        have hcz35_3 : w22.cell? ⟨gb292, 3, none⟩ = some (.slice A1_3 l1_3.length c1_3) := (blk_cell BK292.out 3).trans rfl
                        have hcz35_4 : w22.cell? ⟨gb292, 4, none⟩ = some (.slice A1_4 l1_4.length c1_4) := (blk_cell BK292.out 4).trans rfl
                        have hfz35_0 := blk_frozen BK292.out 0
                        have hfz35_1 := blk_frozen BK292.out 1
                        have hfz35_2 := blk_frozen BK292.out 2
                        have hfz35_3 := blk_frozen BK292.out 3
                        have hfz35_4 := blk_frozen BK292.out 4
                        go_wp2
                        go_meet
                        case rel => exact ⟨_, (true), (by first | rfl | (simp; done) | (simp [*]; done)), H', ⟨by have := HJ3.out; have := HJ10.out; first | omega | exact Nat.le_refl _⟩, ⟨by (with_reducible repeat (first | refine blk_drewN ?_ _ | refine blk_drew ?_ | refine blk_alloc ?_ _)); exact BK292.out⟩, ⟨by repeat (first | (with_reducible first | exact HB.out | apply below_alloc | apply pw_below_drewN | apply below_drew1 | refine below_set ?_ GE292.out) | exact HB.out)⟩⟩
                  · rw [if_neg c26] at H
                    have c26b0 : (t293 == (l1_3.length : Int)) = false := beq_eq_false_iff_ne.mpr c26
                    have c26b1 : (t293 != (l1_3.length : Int)) = true := bne_iff_ne.mpr c26
                    (first | rw [c26b0] | (simp only [i64_w, i32_w]; rw [c26b0]) | skip)
                    have H' := Aside0.mk H
                    clear H
                    have hcz36_0 : w22.cell? ⟨gb292, 0, none⟩ = some (.int .i64 a1_0) := (blk_cell BK292.out 0).trans rfl
                    have hcz36_1 : w22.cell? ⟨gb292, 1, none⟩ = some (.int .i64 a1_1) := (blk_cell BK292.out 1).trans rfl
                    have hcz36_2 : w22.cell? ⟨gb292, 2, none⟩ = some (.slice A1_2 l1_2.length c1_2) := (blk_cell BK292.out 2).trans rfl
                    have hcz36_3 : w22.cell? ⟨gb292, 3, none⟩ = some (.slice A1_3 l1_3.length c1_3) := (blk_cell BK292.out 3).trans rfl
                    have hcz36_4 : w22.cell? ⟨gb292, 4, none⟩ = some (.slice A1_4 l1_4.length c1_4) := (blk_cell BK292.out 4).trans rfl
                    have hfz36_0 := blk_frozen BK292.out 0
                    have hfz36_1 := blk_frozen BK292.out 1
                    have hfz36_2 := blk_frozen BK292.out 2
                    have hfz36_3 := blk_frozen BK292.out 3
                    have hfz36_4 := blk_frozen BK292.out 4
                    go_wp2
                    go_meet
                    case rel => exact ⟨_, (true), (by first | rfl | (simp; done) | (simp [*]; done)), H', ⟨by have := HJ3.out; have := HJ10.out; first | omega | exact Nat.le_refl _⟩, ⟨by (with_reducible repeat (first | refine blk_drewN ?_ _ | refine blk_drew ?_ | refine blk_alloc ?_ _)); exact BK292.out⟩, ⟨by repeat (first | (with_reducible first | exact HB.out | apply below_alloc | apply pw_below_drewN | apply below_drew1 | refine below_set ?_ GE292.out) | exact HB.out)⟩⟩
              · replace c24 := Bool.eq_false_iff.mpr c24
                subst c24
                have H1 : (provenanceref2_goodForm.j2 kj10 true a1_0 a1_1 l1_2 l1_3 l1_4) = some r := by rw [if_neg (show ¬ (false = true) by decide)] at H; exact H
                clear H
                have H := H1
                clear H1
                have H' := Aside0.mk H
                clear H
                go_wp2
                go_meet
                case rel => exact ⟨_, (true), (by first | rfl | (simp; done) | (simp [*]; done)), H', ⟨by have := HJ3.out; have := HJ10.out; first | omega | exact Nat.le_refl _⟩, ⟨by (with_reducible repeat (first | refine blk_drewN ?_ _ | refine blk_drew ?_ | refine blk_alloc ?_ _)); exact BK292.out⟩, ⟨by repeat (first | (with_reducible first | exact HB.out | apply below_alloc | apply pw_below_drewN | apply below_drew1 | refine below_set ?_ GE292.out) | exact HB.out)⟩⟩
            · replace c23 := Bool.eq_false_iff.mpr c23
              subst c23
              have H1 : (if x8_10 = true then (if a2 = true then (provenanceref2_goodForm.j2 kj10 true a1_0 a1_1 l1_2 l1_3 l1_4) else (if t293 = (l1_3.length : Int) then (if t294 = true then ((provenanceref2_goodAlts.f kj10 a1_0 a1_1 l1_2 l1_3 l1_4).bind fun t297 => (provenanceref2_goodForm.j2 kj10 (!t297) a1_0 a1_1 l1_2 l1_3 l1_4)) else (if a1_1 = 0 then ((provenanceref2_goodAlts.f kj10 a1_0 a1_1 l1_2 l1_3 l1_4).bind fun t298 => (provenanceref2_goodForm.j2 kj10 (!t298) a1_0 a1_1 l1_2 l1_3 l1_4)) else (provenanceref2_goodForm.j2 kj10 true a1_0 a1_1 l1_2 l1_3 l1_4))) else (provenanceref2_goodForm.j2 kj10 true a1_0 a1_1 l1_2 l1_3 l1_4))) else (if t293 = (l1_3.length : Int) then (if t294 = true then ((provenanceref2_goodAlts.f kj10 a1_0 a1_1 l1_2 l1_3 l1_4).bind fun t299 => (provenanceref2_goodForm.j2 kj10 (!t299) a1_0 a1_1 l1_2 l1_3 l1_4)) else (if a1_1 = 0 then ((provenanceref2_goodAlts.f kj10 a1_0 a1_1 l1_2 l1_3 l1_4).bind fun t300 => (provenanceref2_goodForm.j2 kj10 (!t300) a1_0 a1_1 l1_2 l1_3 l1_4)) else (provenanceref2_goodForm.j2 kj10 true a1_0 a1_1 l1_2 l1_3 l1_4))) else (provenanceref2_goodForm.j2 kj10 true a1_0 a1_1 l1_2 l1_3 l1_4))) = some r := by rw [if_neg (show ¬ (false = true) by decide)] at H; exact H
              clear H
              have H := H1
              clear H1
              by_cases c37 : x8_10 = true
              · subst c37
                have H1 : (if a2 = true then (provenanceref2_goodForm.j2 kj10 true a1_0 a1_1 l1_2 l1_3 l1_4) else (if t293 = (l1_3.length : Int) then (if t294 = true then ((provenanceref2_goodAlts.f kj10 a1_0 a1_1 l1_2 l1_3 l1_4).bind fun t297 => (provenanceref2_goodForm.j2 kj10 (!t297) a1_0 a1_1 l1_2 l1_3 l1_4)) else (if a1_1 = 0 then ((provenanceref2_goodAlts.f kj10 a1_0 a1_1 l1_2 l1_3 l1_4).bind fun t298 => (provenanceref2_goodForm.j2 kj10 (!t298) a1_0 a1_1 l1_2 l1_3 l1_4)) else (provenanceref2_goodForm.j2 kj10 true a1_0 a1_1 l1_2 l1_3 l1_4))) else (provenanceref2_goodForm.j2 kj10 true a1_0 a1_1 l1_2 l1_3 l1_4))) = some r := by rw [if_pos rfl] at H; exact H
                clear H
                have H := H1
                clear H1
                by_cases c38 : a2 = true
                · subst c38
                  have H1 : (provenanceref2_goodForm.j2 kj10 true a1_0 a1_1 l1_2 l1_3 l1_4) = some r := by rw [if_pos rfl] at H; exact H
                  clear H
                  have H := H1
                  clear H1
                  have H' := Aside0.mk H
                  clear H
                  go_wp2
                  go_meet
                  case rel => exact ⟨_, (true), (by first | rfl | (simp; done) | (simp [*]; done)), H', ⟨by have := HJ3.out; have := HJ10.out; first | omega | exact Nat.le_refl _⟩, ⟨by (with_reducible repeat (first | refine blk_drewN ?_ _ | refine blk_drew ?_ | refine blk_alloc ?_ _)); exact BK292.out⟩, ⟨by repeat (first | (with_reducible first | exact HB.out | apply below_alloc | apply pw_below_drewN | apply below_drew1 | refine below_set ?_ GE292.out) | exact HB.out)⟩⟩
                · replace c38 := Bool.eq_false_iff.mpr c38
                  subst c38
                  have H1 : (if t293 = (l1_3.length : Int) then (if t294 = true then ((provenanceref2_goodAlts.f kj10 a1_0 a1_1 l1_2 l1_3 l1_4).bind fun t297 => (provenanceref2_goodForm.j2 kj10 (!t297) a1_0 a1_1 l1_2 l1_3 l1_4)) else (if a1_1 = 0 then ((provenanceref2_goodAlts.f kj10 a1_0 a1_1 l1_2 l1_3 l1_4).bind fun t298 => (provenanceref2_goodForm.j2 kj10 (!t298) a1_0 a1_1 l1_2 l1_3 l1_4)) else (provenanceref2_goodForm.j2 kj10 true a1_0 a1_1 l1_2 l1_3 l1_4))) else (provenanceref2_goodForm.j2 kj10 true a1_0 a1_1 l1_2 l1_3 l1_4)) = some r := by rw [if_neg (show ¬ (false = true) by decide)] at H; exact H
                  clear H
                  have H := H1
                  clear H1
                  by_cases c39 : t293 = (l1_3.length : Int)
                  · rw [if_pos c39] at H
                    have c39b0 : (t293 == (l1_3.length : Int)) = true := beq_iff_eq.mpr c39
                    have c39b1 : (t293 != (l1_3.length : Int)) = false := bne_eq_false_iff_eq.mpr c39
                    clear c39
                    by_cases c40 : t294 = true
                    · subst c40
                      have H1 : ((provenanceref2_goodAlts.f kj10 a1_0 a1_1 l1_2 l1_3 l1_4).bind fun t297 => (provenanceref2_goodForm.j2 kj10 (!t297) a1_0 a1_1 l1_2 l1_3 l1_4)) = some r := by rw [if_pos rfl] at H; exact H
                      clear H
                      have H := H1
                      clear H1
                      replace H := Option.bind_eq_some_iff.mp H
                      obtain ⟨t297, A410, H⟩ := H
                      replace H : (provenanceref2_goodForm.j2 kj10 (!t297) a1_0 a1_1 l1_2 l1_3 l1_4) = some r := H
                      have A41 := Aside0.mk A410
                      clear A410
                      have H' := Aside0.mk H
                      clear H
                      have hcz42_0 : w22.cell? ⟨gb292, 0, none⟩ = some (.int .i64 a1_0) := (blk_cell BK292.out 0).trans rfl
                      have hcz42_1 : w22.cell? ⟨gb292, 1, none⟩ = some (.int .i64 a1_1) := (blk_cell BK292.out 1).trans rfl
                      have hcz42_2 : w22.cell? ⟨gb292, 2, none⟩ = some (.slice A1_2 l1_2.length c1_2) := (blk_cell BK292.out 2).trans rfl
                      have hcz42_3 : w22.cell? ⟨gb292, 3, none⟩ = some (.slice A1_3 l1_3.length c1_3) := (blk_cell BK292.out 3).trans rfl
                      have hcz42_4 : w22.cell? ⟨gb292, 4, none⟩ = some (.slice A1_4 l1_4.length c1_4) := (blk_cell BK292.out 4).trans rfl
                      have hfz42_0 := blk_frozen BK292.out 0
                      have hfz42_1 := blk_frozen BK292.out 1
                      have hfz42_2 := blk_frozen BK292.out 2
                      have hfz42_3 := blk_frozen BK292.out 3
                      have hfz42_4 := blk_frozen BK292.out 4
                      go_wp2_with (first | (go_at_call 105; (with_reducible refine (provenanceref2_goodAlts.calls kj10 a1_0 a1_1 _ _ l1_2 _ _ l1_3 _ _ l1_4 t297 _ ?side1 ?side2 ?side3 ?side4 ?side5 ?side6 A41.out).mono ?_); (case side1 => repeat (first | exact (Kd.C_below HR1_2.out HB.out) | (with_reducible refine Kd.C_alloc ?_ _) | (with_reducible refine Kd.C_drewN ?_ _) | (with_reducible refine Kd.C_drew ?_))); (case side2 => exact HC1_2.out); (case side3 => repeat (first | exact (Kd.C_below HR1_3.out HB.out) | (with_reducible refine Kd.C_alloc ?_ _) | (with_reducible refine Kd.C_drewN ?_ _) | (with_reducible refine Kd.C_drew ?_))); (case side4 => exact HC1_3.out); (case side5 => repeat (first | exact (Kd.C_below HR1_4.out HB.out) | (with_reducible refine Kd.C_alloc ?_ _) | (with_reducible refine Kd.C_drewN ?_ _) | (with_reducible refine Kd.C_drew ?_))); (case side6 => exact HC1_4.out); rintro e w43 ⟨rfl, hb⟩; have n0_ := Aside0.mk (blk_below (g := gb292) (o := .cells #[.int .i64 a1_0, .int .i64 a1_1, .slice A1_2 l1_2.length c1_2, .slice A1_3 l1_3.length c1_3, .slice A1_4 l1_4.length c1_4] 28 (0, 0)) (by (with_reducible repeat (first | refine blk_drewN ?_ _ | refine blk_drew ?_ | refine blk_alloc ?_ _)); exact BK292.out) hb); have n1_ := Aside0.mk (below_step (by repeat (first | (with_reducible first | exact HB.out | apply below_alloc | apply pw_below_drewN | apply below_drew1 | refine below_set ?_ GE292.out) | exact HB.out)) hb); clear BK292; clear HB; have BK292 := n0_; have HB := n1_; clear n0_ n1_; (try clear hb); (try clear hb2); (try clear hk); (try clear hi)))
                      go_meet
                      case rel => exact ⟨_, (!t297), (by first | rfl | (simp; done) | (simp [*]; done)), H', ⟨by have := HJ3.out; have := HJ10.out; first | omega | exact Nat.le_refl _⟩, ⟨by (with_reducible repeat (first | refine blk_drewN ?_ _ | refine blk_drew ?_ | refine blk_alloc ?_ _)); exact BK292.out⟩, ⟨by repeat (first | (with_reducible first | exact HB.out | apply below_alloc | apply pw_below_drewN | apply below_drew1 | refine below_set ?_ GE292.out) | exact HB.out)⟩⟩
                    · replace c40 := Bool.eq_false_iff.mpr c40
                      subst c40
                      have H1 : (if a1_1 = 0 then ((provenanceref2_goodAlts.f kj10 a1_0 a1_1 l1_2 l1_3 l1_4).bind fun t298 => (provenanceref2_goodForm.j2 kj10 (!t298) a1_0 a1_1 l1_2 l1_3 l1_4)) else (provenanceref2_goodForm.j2 kj10 true a1_0 a1_1 l1_2 l1_3 l1_4)) = some r := by rw [if_neg (show ¬ (false = true) by decide)] at H; exact H
                      clear H
                      have H := H1
                      clear H1
                      by_cases c44 : a1_1 = 0
                      · rw [if_pos c44] at H
                        have c44b0 : (a1_1 == 0) = true := beq_iff_eq.mpr c44
                        have c44b1 : (a1_1 != 0) = false := bne_eq_false_iff_eq.mpr c44
                        clear c44
                        replace H := Option.bind_eq_some_iff.mp H
                        obtain ⟨t298, A450, H⟩ := H
                        replace H : (provenanceref2_goodForm.j2 kj10 (!t298) a1_0 a1_1 l1_2 l1_3 l1_4) = some r := H
                        have A45 := Aside0.mk A450
                        clear A450
                        have H' := Aside0.mk H
                        clear H
                        have hcz46_0 : w22.cell? ⟨gb292, 0, none⟩ = some (.int .i64 a1_0) := (blk_cell BK292.out 0).trans rfl
                        have hcz46_1 : w22.cell? ⟨gb292, 1, none⟩ = some (.int .i64 a1_1) := (blk_cell BK292.out 1).trans rfl
                        have hcz46_2 : w22.cell? ⟨gb292, 2, none⟩ = some (.slice A1_2 l1_2.length c1_2) := (blk_cell BK292.out 2).trans rfl
                        have hcz46_3 : w22.cell? ⟨gb292, 3, none⟩ = some (.slice A1_3 l1_3.length c1_3) := (blk_cell BK292.out 3).trans rfl
                        have hcz46_4 : w22.cell? ⟨gb292, 4, none⟩ = some (.slice A1_4 l1_4.length c1_4) := (blk_cell BK292.out 4).trans rfl
                        have hfz46_0 := blk_frozen BK292.out 0
                        have hfz46_1 := blk_frozen BK292.out 1
                        have hfz46_2 := blk_frozen BK292.out 2
                        have hfz46_3 := blk_frozen BK292.out 3
                        have hfz46_4 := blk_frozen BK292.out 4
                        go_wp2_with (first | (go_at_call 105; (with_reducible refine (provenanceref2_goodAlts.calls kj10 a1_0 a1_1 _ _ l1_2 _ _ l1_3 _ _ l1_4 t298 _ ?side1 ?side2 ?side3 ?side4 ?side5 ?side6 A45.out).mono ?_); (case side1 => repeat (first | exact (Kd.C_below HR1_2.out HB.out) | (with_reducible refine Kd.C_alloc ?_ _) | (with_reducible refine Kd.C_drewN ?_ _) | (with_reducible refine Kd.C_drew ?_))); (case side2 => exact HC1_2.out); (case side3 => repeat (first | exact (Kd.C_below HR1_3.out HB.out) | (with_reducible refine Kd.C_alloc ?_ _) | (with_reducible refine Kd.C_drewN ?_ _) | (with_reducible refine Kd.C_drew ?_))); (case side4 => exact HC1_3.out); (case side5 => repeat (first | exact (Kd.C_below HR1_4.out HB.out) | (with_reducible refine Kd.C_alloc ?_ _) | (with_reducible refine Kd.C_drewN ?_ _) | (with_reducible refine Kd.C_drew ?_))); (case side6 => exact HC1_4.out); rintro e w47 ⟨rfl, hb⟩; have n0_ := Aside0.mk (blk_below (g := gb292) (o := .cells #[.int .i64 a1_0, .int .i64 a1_1, .slice A1_2 l1_2.length c1_2, .slice A1_3 l1_3.length c1_3, .slice A1_4 l1_4.length c1_4] 28 (0, 0)) (by (with_reducible repeat (first | refine blk_drewN ?_ _ | refine blk_drew ?_ | refine blk_alloc ?_ _)); exact BK292.out) hb); have n1_ := Aside0.mk (below_step (by repeat (first | (with_reducible first | exact HB.out | apply below_alloc | apply pw_below_drewN | apply below_drew1 | refine below_set ?_ GE292.out) | exact HB.out)) hb); clear BK292; clear HB; have BK292 := n0_; have HB := n1_; clear n0_ n1_; (try clear hb); (try clear hb2); (try clear hk); (try clear hi)))
                        go_meet
                        case rel => exact ⟨_, (!t298), (by first | rfl | (simp; done) | (simp [*]; done)), H', ⟨by have := HJ3.out; have := HJ10.out; first | omega | exact Nat.le_refl _⟩, ⟨by (with_reducible repeat (first | refine blk_drewN ?_ _ | refine blk_drew ?_ | refine blk_alloc ?_ _)); exact BK292.out⟩, ⟨by repeat (first | (with_reducible first | exact HB.out | apply below_alloc | apply pw_below_drewN | apply below_drew1 | refine below_set ?_ GE292.out) | exact HB.out)⟩⟩
                      · rw [if_neg c44] at H
                        have c44b0 : (a1_1 == 0) = false := beq_eq_false_iff_ne.mpr c44
                        have c44b1 : (a1_1 != 0) = true := bne_iff_ne.mpr c44
                        have H' := Aside0.mk H
                        clear H
                        have hcz48_0 : w22.cell? ⟨gb292, 0, none⟩ = some (.int .i64 a1_0) := (blk_cell BK292.out 0).trans rfl
                        have hcz48_1 : w22.cell? ⟨gb292, 1, none⟩ = some (.int .i64 a1_1) := (blk_cell BK292.out 1).trans rfl
                        have hcz48_2 : w22.cell? ⟨gb292, 2, none⟩ = some (.slice A1_2 l1_2.length c1_2) := (blk_cell BK292.out 2).trans rfl
                        have hcz48_3 : w22.cell? ⟨gb292, 3, none⟩ = some (.slice A1_3 l1_3.length c1_3) := (blk_cell BK292.out 3).trans rfl
                        have hcz48_4 : w22.cell? ⟨gb292, 4, none⟩ = some (.slice A1_4 l1_4.length c1_4) := (blk_cell BK292.out 4).trans rfl
                        have hfz48_0 := blk_frozen BK292.out 0
                        have hfz48_1 := blk_frozen BK292.out 1
                        have hfz48_2 := blk_frozen BK292.out 2
                        have hfz48_3 := blk_frozen BK292.out 3
                        have hfz48_4 := blk_frozen BK292.out 4
                        go_wp2
                        go_meet
                        case rel => exact ⟨_, (true), (by first | rfl | (simp; done) | (simp [*]; done)), H', ⟨by have := HJ3.out; have := HJ10.out; first | omega | exact Nat.le_refl _⟩, ⟨by (with_reducible repeat (first | refine blk_drewN ?_ _ | refine blk_drew ?_ | refine blk_alloc ?_ _)); exact BK292.out⟩, ⟨by repeat (first | (with_reducible first | exact HB.out | apply below_alloc | apply pw_below_drewN | apply below_drew1 | refine below_set ?_ GE292.out) | exact HB.out)⟩⟩
                  · rw [if_neg c39] at H
                    have c39b0 : (t293 == (l1_3.length : Int)) = false := beq_eq_false_iff_ne.mpr c39
                    have c39b1 : (t293 != (l1_3.length : Int)) = true := bne_iff_ne.mpr c39
                    have H' := Aside0.mk H
                    clear H
                    have hcz49_0 : w22.cell? ⟨gb292, 0, none⟩ = some (.int .i64 a1_0) := (blk_cell BK292.out 0).trans rfl
                    have hcz49_1 : w22.cell? ⟨gb292, 1, none⟩ = some (.int .i64 a1_1) := (blk_cell BK292.out 1).trans rfl
                    have hcz49_2 : w22.cell? ⟨gb292, 2, none⟩ = some (.slice A1_2 l1_2.length c1_2) := (blk_cell BK292.out 2).trans rfl
                    have hcz49_3 : w22.cell? ⟨gb292, 3, none⟩ = some (.slice A1_3 l1_3.length c1_3) := (blk_cell BK292.out 3).trans rfl
                    have hcz49_4 : w22.cell? ⟨gb292, 4, none⟩ = some (.slice A1_4 l1_4.length c1_4) := (blk_cell BK292.out 4).trans rfl
                    have hfz49_0 := blk_frozen BK292.out 0
                    have hfz49_1 := blk_frozen BK292.out 1
                    have hfz49_2 := blk_frozen BK292.out 2
                    have hfz49_3 := blk_frozen BK292.out 3
                    have hfz49_4 := blk_frozen BK292.out 4
                    go_wp2
                    go_meet
                    case rel => exact ⟨_, (true), (by first | rfl | (simp; done) | (simp [*]; done)), H', ⟨by have := HJ3.out; have := HJ10.out; first | omega | exact Nat.le_refl _⟩, ⟨by (with_reducible repeat (first | refine blk_drewN ?_ _ | refine blk_drew ?_ | refine blk_alloc ?_ _)); exact BK292.out⟩, ⟨by repeat (first | (with_reducible first | exact HB.out | apply below_alloc | apply pw_below_drewN | apply below_drew1 | refine below_set ?_ GE292.out) | exact HB.out)⟩⟩
              · replace c37 := Bool.eq_false_iff.mpr c37
                subst c37
                have H1 : (if t293 = (l1_3.length : Int) then (if t294 = true then ((provenanceref2_goodAlts.f kj10 a1_0 a1_1 l1_2 l1_3 l1_4).bind fun t299 => (provenanceref2_goodForm.j2 kj10 (!t299) a1_0 a1_1 l1_2 l1_3 l1_4)) else (if a1_1 = 0 then ((provenanceref2_goodAlts.f kj10 a1_0 a1_1 l1_2 l1_3 l1_4).bind fun t300 => (provenanceref2_goodForm.j2 kj10 (!t300) a1_0 a1_1 l1_2 l1_3 l1_4)) else (provenanceref2_goodForm.j2 kj10 true a1_0 a1_1 l1_2 l1_3 l1_4))) else (provenanceref2_goodForm.j2 kj10 true a1_0 a1_1 l1_2 l1_3 l1_4)) = some r := by rw [if_neg (show ¬ (false = true) by decide)] at H; exact H
                clear H
                have H := H1
                clear H1
                by_cases c50 : t293 = (l1_3.length : Int)
                · rw [if_pos c50] at H
                  have c50b0 : (t293 == (l1_3.length : Int)) = true := beq_iff_eq.mpr c50
                  have c50b1 : (t293 != (l1_3.length : Int)) = false := bne_eq_false_iff_eq.mpr c50
                  clear c50
                  by_cases c51 : t294 = true
                  · subst c51
                    have H1 : ((provenanceref2_goodAlts.f kj10 a1_0 a1_1 l1_2 l1_3 l1_4).bind fun t299 => (provenanceref2_goodForm.j2 kj10 (!t299) a1_0 a1_1 l1_2 l1_3 l1_4)) = some r := by rw [if_pos rfl] at H; exact H
                    clear H
                    have H := H1
                    clear H1
                    replace H := Option.bind_eq_some_iff.mp H
                    obtain ⟨t299, A520, H⟩ := H
                    replace H : (provenanceref2_goodForm.j2 kj10 (!t299) a1_0 a1_1 l1_2 l1_3 l1_4) = some r := H
                    have A52 := Aside0.mk A520
                    clear A520
                    have H' := Aside0.mk H
                    clear H
                    have hcz53_0 : w22.cell? ⟨gb292, 0, none⟩ = some (.int .i64 a1_0) := (blk_cell BK292.out 0).trans rfl
                    have hcz53_1 : w22.cell? ⟨gb292, 1, none⟩ = some (.int .i64 a1_1) := (blk_cell BK292.out 1).trans rfl
                    have hcz53_2 : w22.cell? ⟨gb292, 2, none⟩ = some (.slice A1_2 l1_2.length c1_2) := (blk_cell BK292.out 2).trans rfl
                    have hcz53_3 : w22.cell? ⟨gb292, 3, none⟩ = some (.slice A1_3 l1_3.length c1_3) := (blk_cell BK292.out 3).trans rfl
                    have hcz53_4 : w22.cell? ⟨gb292, 4, none⟩ = some (.slice A1_4 l1_4.length c1_4) := (blk_cell BK292.out 4).trans rfl
                    have hfz53_0 := blk_frozen BK292.out 0
                    have hfz53_1 := blk_frozen BK292.out 1
                    have hfz53_2 := blk_frozen BK292.out 2
                    have hfz53_3 := blk_frozen BK292.out 3
                    have hfz53_4 := blk_frozen BK292.out 4
                    go_wp2_with (first | (go_at_call 105; (with_reducible refine (provenanceref2_goodAlts.calls kj10 a1_0 a1_1 _ _ l1_2 _ _ l1_3 _ _ l1_4 t299 _ ?side1 ?side2 ?side3 ?side4 ?side5 ?side6 A52.out).mono ?_); (case side1 => repeat (first | exact (Kd.C_below HR1_2.out HB.out) | (with_reducible refine Kd.C_alloc ?_ _) | (with_reducible refine Kd.C_drewN ?_ _) | (with_reducible refine Kd.C_drew ?_))); (case side2 => exact HC1_2.out); (case side3 => repeat (first | exact (Kd.C_below HR1_3.out HB.out) | (with_reducible refine Kd.C_alloc ?_ _) | (with_reducible refine Kd.C_drewN ?_ _) | (with_reducible refine Kd.C_drew ?_))); (case side4 => exact HC1_3.out); (case side5 => repeat (first | exact (Kd.C_below HR1_4.out HB.out) | (with_reducible refine Kd.C_alloc ?_ _) | (with_reducible refine Kd.C_drewN ?_ _) | (with_reducible refine Kd.C_drew ?_))); (case side6 => exact HC1_4.out); rintro e w54 ⟨rfl, hb⟩; have n0_ := Aside0.mk (blk_below (g := gb292) (o := .cells #[.int .i64 a1_0, .int .i64 a1_1, .slice A1_2 l1_2.length c1_2, .slice A1_3 l1_3.length c1_3, .slice A1_4 l1_4.length c1_4] 28 (0, 0)) (by (with_reducible repeat (first | refine blk_drewN ?_ _ | refine blk_drew ?_ | refine blk_alloc ?_ _)); exact BK292.out) hb); have n1_ := Aside0.mk (below_step (by repeat (first | (with_reducible first | exact HB.out | apply below_alloc | apply pw_below_drewN | apply below_drew1 | refine below_set ?_ GE292.out) | exact HB.out)) hb); clear BK292; clear HB; have BK292 := n0_; have HB := n1_; clear n0_ n1_; (try clear hb); (try clear hb2); (try clear hk); (try clear hi)))
                    go_meet
                    case rel => exact ⟨_, (!t299), (by first | rfl | (simp; done) | (simp [*]; done)), H', ⟨by have := HJ3.out; have := HJ10.out; first | omega | exact Nat.le_refl _⟩, ⟨by (with_reducible repeat (first | refine blk_drewN ?_ _ | refine blk_drew ?_ | refine blk_alloc ?_ _)); exact BK292.out⟩, ⟨by repeat (first | (with_reducible first | exact HB.out | apply below_alloc | apply pw_below_drewN | apply below_drew1 | refine below_set ?_ GE292.out) | exact HB.out)⟩⟩
                  · replace c51 := Bool.eq_false_iff.mpr c51
                    subst c51
                    have H1 : (if a1_1 = 0 then ((provenanceref2_goodAlts.f kj10 a1_0 a1_1 l1_2 l1_3 l1_4).bind fun t300 => (provenanceref2_goodForm.j2 kj10 (!t300) a1_0 a1_1 l1_2 l1_3 l1_4)) else (provenanceref2_goodForm.j2 kj10 true a1_0 a1_1 l1_2 l1_3 l1_4)) = some r := by rw [if_neg (show ¬ (false = true) by decide)] at H; exact H
                    clear H
                    have H := H1
                    clear H1
                    by_cases c55 : a1_1 = 0
                    · rw [if_pos c55] at H
                      have c55b0 : (a1_1 == 0) = true := beq_iff_eq.mpr c55
                      have c55b1 : (a1_1 != 0) = false := bne_eq_false_iff_eq.mpr c55
                      clear c55
                      replace H := Option.bind_eq_some_iff.mp H
                      obtain ⟨t300, A560, H⟩ := H
                      replace H : (provenanceref2_goodForm.j2 kj10 (!t300) a1_0 a1_1 l1_2 l1_3 l1_4) = some r := H
                      have A56 := Aside0.mk A560
                      clear A560
                      have H' := Aside0.mk H
                      clear H
                      have hcz57_0 : w22.cell? ⟨gb292, 0, none⟩ = some (.int .i64 a1_0) := (blk_cell BK292.out 0).trans rfl
                      have hcz57_1 : w22.cell? ⟨gb292, 1, none⟩ = some (.int .i64 a1_1) := (blk_cell BK292.out 1).trans rfl
                      have hcz57_2 : w22.cell? ⟨gb292, 2, none⟩ = some (.slice A1_2 l1_2.length c1_2) := (blk_cell BK292.out 2).trans rfl
                      have hcz57_3 : w22.cell? ⟨gb292, 3, none⟩ = some (.slice A1_3 l1_3.length c1_3) := (blk_cell BK292.out 3).trans rfl
                      have hcz57_4 : w22.cell? ⟨gb292, 4, none⟩ = some (.slice A1_4 l1_4.length c1_4) := (blk_cell BK292.out 4).trans rfl
                      have hfz57_0 := blk_frozen BK292.out 0
                      have hfz57_1 := blk_frozen BK292.out 1
                      have hfz57_2 := blk_frozen BK292.out 2
                      have hfz57_3 := blk_frozen BK292.out 3
                      have hfz57_4 := blk_frozen BK292.out 4
                      go_wp2_with (first | (go_at_call 105; (with_reducible refine (provenanceref2_goodAlts.calls kj10 a1_0 a1_1 _ _ l1_2 _ _ l1_3 _ _ l1_4 t300 _ ?side1 ?side2 ?side3 ?side4 ?side5 ?side6 A56.out).mono ?_); (case side1 => repeat (first | exact (Kd.C_below HR1_2.out HB.out) | (with_reducible refine Kd.C_alloc ?_ _) | (with_reducible refine Kd.C_drewN ?_ _) | (with_reducible refine Kd.C_drew ?_))); (case side2 => exact HC1_2.out); (case side3 => repeat (first | exact (Kd.C_below HR1_3.out HB.out) | (with_reducible refine Kd.C_alloc ?_ _) | (with_reducible refine Kd.C_drewN ?_ _) | (with_reducible refine Kd.C_drew ?_))); (case side4 => exact HC1_3.out); (case side5 => repeat (first | exact (Kd.C_below HR1_4.out HB.out) | (with_reducible refine Kd.C_alloc ?_ _) | (with_reducible refine Kd.C_drewN ?_ _) | (with_reducible refine Kd.C_drew ?_))); (case side6 => exact HC1_4.out); rintro e w58 ⟨rfl, hb⟩; have n0_ := Aside0.mk (blk_below (g := gb292) (o := .cells #[.int .i64 a1_0, .int .i64 a1_1, .slice A1_2 l1_2.length c1_2, .slice A1_3 l1_3.length c1_3, .slice A1_4 l1_4.length c1_4] 28 (0, 0)) (by (with_reducible repeat (first | refine blk_drewN ?_ _ | refine blk_drew ?_ | refine blk_alloc ?_ _)); exact BK292.out) hb); have n1_ := Aside0.mk (below_step (by repeat (first | (with_reducible first | exact HB.out | apply below_alloc | apply pw_below_drewN | apply below_drew1 | refine below_set ?_ GE292.out) | exact HB.out)) hb); clear BK292; clear HB; have BK292 := n0_; have HB := n1_; clear n0_ n1_; (try clear hb); (try clear hb2); (try clear hk); (try clear hi)))
                      go_meet
                      case rel => exact ⟨_, (!t300), (by first | rfl | (simp; done) | (simp [*]; done)), H', ⟨by have := HJ3.out; have := HJ10.out; first | omega | exact Nat.le_refl _⟩, ⟨by (with_reducible repeat (first | refine blk_drewN ?_ _ | refine blk_drew ?_ | refine blk_alloc ?_ _)); exact BK292.out⟩, ⟨by repeat (first | (with_reducible first | exact HB.out | apply below_alloc | apply pw_below_drewN | apply below_drew1 | refine below_set ?_ GE292.out) | exact HB.out)⟩⟩
                    · rw [if_neg c55] at H
                      have c55b0 : (a1_1 == 0) = false := beq_eq_false_iff_ne.mpr c55
                      have c55b1 : (a1_1 != 0) = true := bne_iff_ne.mpr c55
                      have H' := Aside0.mk H
                      clear H
                      have hcz59_0 : w22.cell? ⟨gb292, 0, none⟩ = some (.int .i64 a1_0) := (blk_cell BK292.out 0).trans rfl
                      have hcz59_1 : w22.cell? ⟨gb292, 1, none⟩ = some (.int .i64 a1_1) := (blk_cell BK292.out 1).trans rfl
                      have hcz59_2 : w22.cell? ⟨gb292, 2, none⟩ = some (.slice A1_2 l1_2.length c1_2) := (blk_cell BK292.out 2).trans rfl
                      have hcz59_3 : w22.cell? ⟨gb292, 3, none⟩ = some (.slice A1_3 l1_3.length c1_3) := (blk_cell BK292.out 3).trans rfl
                      have hcz59_4 : w22.cell? ⟨gb292, 4, none⟩ = some (.slice A1_4 l1_4.length c1_4) := (blk_cell BK292.out 4).trans rfl
                      have hfz59_0 := blk_frozen BK292.out 0
                      have hfz59_1 := blk_frozen BK292.out 1
                      have hfz59_2 := blk_frozen BK292.out 2
                      have hfz59_3 := blk_frozen BK292.out 3
                      have hfz59_4 := blk_frozen BK292.out 4
                      go_wp2
                      go_meet
                      case rel => exact ⟨_, (true), (by first | rfl | (simp; done) | (simp [*]; done)), H', ⟨by have := HJ3.out; have := HJ10.out; first | omega | exact Nat.le_refl _⟩, ⟨by (with_reducible repeat (first | refine blk_drewN ?_ _ | refine blk_drew ?_ | refine blk_alloc ?_ _)); exact BK292.out⟩, ⟨by repeat (first | (with_reducible first | exact HB.out | apply below_alloc | apply pw_below_drewN | apply below_drew1 | refine below_set ?_ GE292.out) | exact HB.out)⟩⟩
                · rw [if_neg c50] at H
                  have c50b0 : (t293 == (l1_3.length : Int)) = false := beq_eq_false_iff_ne.mpr c50
                  have c50b1 : (t293 != (l1_3.length : Int)) = true := bne_iff_ne.mpr c50
                  have H' := Aside0.mk H
                  clear H
                  have hcz60_0 : w22.cell? ⟨gb292, 0, none⟩ = some (.int .i64 a1_0) := (blk_cell BK292.out 0).trans rfl
                  have hcz60_1 : w22.cell? ⟨gb292, 1, none⟩ = some (.int .i64 a1_1) := (blk_cell BK292.out 1).trans rfl
                  have hcz60_2 : w22.cell? ⟨gb292, 2, none⟩ = some (.slice A1_2 l1_2.length c1_2) := (blk_cell BK292.out 2).trans rfl
                  have hcz60_3 : w22.cell? ⟨gb292, 3, none⟩ = some (.slice A1_3 l1_3.length c1_3) := (blk_cell BK292.out 3).trans rfl
                  have hcz60_4 : w22.cell? ⟨gb292, 4, none⟩ = some (.slice A1_4 l1_4.length c1_4) := (blk_cell BK292.out 4).trans rfl
                  have hfz60_0 := blk_frozen BK292.out 0
                  have hfz60_1 := blk_frozen BK292.out 1
                  have hfz60_2 := blk_frozen BK292.out 2
                  have hfz60_3 := blk_frozen BK292.out 3
                  have hfz60_4 := blk_frozen BK292.out 4
                  go_wp2
                  go_meet
                  case rel => exact ⟨_, (true), (by first | rfl | (simp; done) | (simp [*]; done)), H', ⟨by have := HJ3.out; have := HJ10.out; first | omega | exact Nat.le_refl _⟩, ⟨by (with_reducible repeat (first | refine blk_drewN ?_ _ | refine blk_drew ?_ | refine blk_alloc ?_ _)); exact BK292.out⟩, ⟨by repeat (first | (with_reducible first | exact HB.out | apply below_alloc | apply pw_below_drewN | apply below_drew1 | refine below_set ?_ GE292.out) | exact HB.out)⟩⟩
          case rest =>
            clear HC20
            try clear c1
            try clear c2
            try clear p2
            try clear c3
            try clear c4
            try clear c5
            try clear c6
            try clear c6b0
            try clear c6b1
            try clear c7
            try clear c8
            try clear c8b0
            try clear c8b1
            try clear c10
            try clear c12
            try clear c12b0
            try clear c12b1
            try clear c14
            try clear c14b0
            try clear c14b1
            try clear c16
            try clear c16b0
            try clear c16b1
            try clear c23
            try clear c24
            try clear c25
            try clear c26
            try clear c26b0
            try clear c26b1
            try clear c27
            try clear c31
            try clear c31b0
            try clear c31b1
            try clear c37
            try clear c38
            try clear c39
            try clear c39b0
            try clear c39b1
            try clear c40
            try clear c44
            try clear c44b0
            try clear c44b1
            try clear c50
            try clear c50b0
            try clear c50b1
            try clear c51
            try clear c55
            try clear c55b0
            try clear c55b1
            try clear hcz10_0
            try clear hcz10_1
            try clear hcz10_2
            try clear hcz10_3
            try clear hcz10_4
            try clear hcz13_0
            try clear hcz13_1
            try clear hcz13_2
            try clear hcz13_3
            try clear hcz13_4
            try clear hcz15_0
            try clear hcz15_1
            try clear hcz15_2
            try clear hcz15_3
            try clear hcz15_4
            try clear hcz17_0
            try clear hcz17_1
            try clear hcz17_2
            try clear hcz17_3
            try clear hcz17_4
            try clear hcz18_0
            try clear hcz18_1
            try clear hcz18_2
            try clear hcz18_3
            try clear hcz18_4
            try clear hcz21_0
            try clear hcz21_1
            try clear hcz21_2
            try clear hcz21_3
            try clear hcz21_4
            try clear hcz29_0
            try clear hcz29_1
            try clear hcz29_2
            try clear hcz29_3
            try clear hcz29_4
            try clear hcz33_0
            try clear hcz33_1
            try clear hcz33_2
            try clear hcz33_3
            try clear hcz33_4
            try clear hcz35_0
            try clear hcz35_1
            try clear hcz35_2
            try clear hcz35_3
            try clear hcz35_4
            try clear hcz36_0
            try clear hcz36_1
            try clear hcz36_2
            try clear hcz36_3
            try clear hcz36_4
            try clear hcz42_0
            try clear hcz42_1
            try clear hcz42_2
            try clear hcz42_3
            try clear hcz42_4
            try clear hcz46_0
            try clear hcz46_1
            try clear hcz46_2
            try clear hcz46_3
            try clear hcz46_4
            try clear hcz48_0
            try clear hcz48_1
            try clear hcz48_2
            try clear hcz48_3
            try clear hcz48_4
            try clear hcz49_0
            try clear hcz49_1
            try clear hcz49_2
            try clear hcz49_3
            try clear hcz49_4
            try clear hcz53_0
            try clear hcz53_1
            try clear hcz53_2
            try clear hcz53_3
            try clear hcz53_4
            try clear hcz57_0
            try clear hcz57_1
            try clear hcz57_2
            try clear hcz57_3
            try clear hcz57_4
            try clear hcz59_0
            try clear hcz59_1
            try clear hcz59_2
            try clear hcz59_3
            try clear hcz59_4
            try clear hcz60_0
            try clear hcz60_1
            try clear hcz60_2
            try clear hcz60_3
            try clear hcz60_4
            try clear hcz7_0
            try clear hcz7_1
            try clear hcz7_2
            try clear hcz7_3
            try clear hcz7_4
            try clear hcz9_0
            try clear hcz9_1
            try clear hcz9_2
            try clear hcz9_3
            try clear hcz9_4
            try clear hfz10_0
            try clear hfz10_1
            try clear hfz10_2
            try clear hfz10_3
            try clear hfz10_4
            try clear hfz13_0
            try clear hfz13_1
            try clear hfz13_2
            try clear hfz13_3
            try clear hfz13_4
            try clear hfz15_0
            try clear hfz15_1
            try clear hfz15_2
            try clear hfz15_3
            try clear hfz15_4
            try clear hfz17_0
            try clear hfz17_1
            try clear hfz17_2
            try clear hfz17_3
            try clear hfz17_4
            try clear hfz18_0
            try clear hfz18_1
            try clear hfz18_2
            try clear hfz18_3
            try clear hfz18_4
            try clear hfz21_0
            try clear hfz21_1
            try clear hfz21_2
            try clear hfz21_3
            try clear hfz21_4
            try clear hfz29_0
            try clear hfz29_1
            try clear hfz29_2
            try clear hfz29_3
            try clear hfz29_4
            try clear hfz33_0
            try clear hfz33_1
            try clear hfz33_2
            try clear hfz33_3
            try clear hfz33_4
            try clear hfz35_0
            try clear hfz35_1
            try clear hfz35_2
            try clear hfz35_3
            try clear hfz35_4
            try clear hfz36_0
            try clear hfz36_1
            try clear hfz36_2
            try clear hfz36_3
            try clear hfz36_4
            try clear hfz42_0
            try clear hfz42_1
            try clear hfz42_2
            try clear hfz42_3
            try clear hfz42_4
            try clear hfz46_0
            try clear hfz46_1
            try clear hfz46_2
            try clear hfz46_3
            try clear hfz46_4
            try clear hfz48_0
            try clear hfz48_1
            try clear hfz48_2
            try clear hfz48_3
            try clear hfz48_4
            try clear hfz49_0
            try clear hfz49_1
            try clear hfz49_2
            try clear hfz49_3
            try clear hfz49_4
            try clear hfz53_0
            try clear hfz53_1
            try clear hfz53_2
            try clear hfz53_3
            try clear hfz53_4
            try clear hfz57_0
            try clear hfz57_1
            try clear hfz57_2
            try clear hfz57_3
            try clear hfz57_4
            try clear hfz59_0
            try clear hfz59_1
            try clear hfz59_2
            try clear hfz59_3
            try clear hfz59_4
            try clear hfz60_0
            try clear hfz60_1
            try clear hfz60_2
            try clear hfz60_3
            try clear hfz60_4
            try clear hfz7_0
            try clear hfz7_1
            try clear hfz7_2
            try clear hfz7_3
            try clear hfz7_4
            try clear hfz9_0
            try clear hfz9_1
            try clear hfz9_2
            try clear hfz9_3
            try clear hfz9_4
            try clear p2
            obtain ⟨kq, x78_19, rfl, HA, HJ19, BK292, HB⟩ := hcut
            cases kq with
            | zero => exact absurd HA.out (by simp [provenanceref2_goodForm.j2])
            | succ kj19 =>
              have H := HA.out
              clear HA
              simp only [provenanceref2_goodForm.j2] at H
              by_cases c61 : x78_19 = true
              · subst c61
                have H1 : (some false) = some r := by rw [if_pos rfl] at H; exact H
                clear H
                have H := H1
                clear H1
                obtain rfl := Option.some.inj H
                go_wp2
                go_ret
                exact ⟨by first | rfl | (simp [errW_none, errW_some] <;> rfl) | (simp [*, errW_none, errW_some] <;> rfl), by repeat (first | (with_reducible first | exact HB.out | apply below_alloc | apply pw_below_drewN | apply below_drew1 | refine below_set ?_ GE292.out) | exact HB.out)⟩
              · replace c61 := Bool.eq_false_iff.mpr c61
                subst c61
                have H1 : (if a1_0 = 2 then (provenanceref2_goodForm.j3 kj19 a1_0 (a1_0 == 2) a1_0 a1_1 l1_2 l1_3 l1_4) else (provenanceref2_goodForm.j3 kj19 a1_0 (a1_0 == 9) a1_0 a1_1 l1_2 l1_3 l1_4)) = some r := by rw [if_neg (show ¬ (false = true) by decide)] at H; exact H
                clear H
                have H := H1
                clear H1
                have HC62 := Aside0.mk H
                clear H
                have hcz63_0 : wc.cell? ⟨gb292, 0, none⟩ = some (.int .i64 a1_0) := (blk_cell BK292.out 0).trans rfl
                have hcz63_1 : wc.cell? ⟨gb292, 1, none⟩ = some (.int .i64 a1_1) := (blk_cell BK292.out 1).trans rfl
                have hcz63_2 : wc.cell? ⟨gb292, 2, none⟩ = some (.slice A1_2 l1_2.length c1_2) := (blk_cell BK292.out 2).trans rfl
                have hcz63_3 : wc.cell? ⟨gb292, 3, none⟩ = some (.slice A1_3 l1_3.length c1_3) := (blk_cell BK292.out 3).trans rfl
                have hcz63_4 : wc.cell? ⟨gb292, 4, none⟩ = some (.slice A1_4 l1_4.length c1_4) := (blk_cell BK292.out 4).trans rfl
                have hfz63_0 := blk_frozen BK292.out 0
                have hfz63_1 := blk_frozen BK292.out 1
                have hfz63_2 := blk_frozen BK292.out 2
                have hfz63_3 := blk_frozen BK292.out 3
                have hfz63_4 := blk_frozen BK292.out 4
                go_upto_if 81 with (fail)
                go_cut [81] (fun v81 wc => ∃ (kq : Nat) (x81_61 : Bool), v81 = .bool x81_61 ∧ Aside0 (provenanceref2_goodForm.j3 kq a1_0 x81_61 a1_0 a1_1 l1_2 l1_3 l1_4 = some r) ∧ Aside0 (kq ≤ kj19) ∧ Aside0 (wc.heap[gb292]? = some (.cells #[.int .i64 a1_0, .int .i64 a1_1, (.slice A1_2 l1_2.length c1_2), (.slice A1_3 l1_3.length c1_3), (.slice A1_4 l1_4.length c1_4)] 28 (0, 0))) ∧ Aside0 (Below w.heap.size w wc))
                case first =>
                  have H := HC62.out
                  clear HC62
                  by_cases c64 : a1_0 = 2
                  · rw [if_pos c64] at H
                    have c64b0 : (a1_0 == 2) = true := beq_iff_eq.mpr c64
                    have c64b1 : (a1_0 != 2) = false := bne_eq_false_iff_eq.mpr c64
                    clear c64
                    (first | rw [c64b0] | (simp only [i64_w, i32_w]; rw [c64b0]) | skip)
                    have H' := Aside0.mk H
                    clear H
                    go_wp2
                    go_meet
                    case rel => exact ⟨_, ((a1_0 == 2)), (by first | rfl | (simp; done) | (simp [*]; done)), H', ⟨by have := HJ3.out; have := HJ10.out; have := HJ19.out; first | omega | exact Nat.le_refl _⟩, ⟨by (with_reducible repeat (first | refine blk_drewN ?_ _ | refine blk_drew ?_ | refine blk_alloc ?_ _)); exact BK292.out⟩, ⟨by repeat (first | (with_reducible first | exact HB.out | apply below_alloc | apply pw_below_drewN | apply below_drew1 | refine below_set ?_ GE292.out) | exact HB.out)⟩⟩
                  · rw [if_neg c64] at H
                    have c64b0 : (a1_0 == 2) = false := beq_eq_false_iff_ne.mpr c64
                    have c64b1 : (a1_0 != 2) = true := bne_iff_ne.mpr c64
                    (first | rw [c64b0] | (simp only [i64_w, i32_w]; rw [c64b0]) | skip)
                    have H' := Aside0.mk H
                    clear H
                    go_wp2
                    go_meet
                    case rel => exact ⟨_, ((a1_0 == 9)), (by first | rfl | (simp; done) | (simp [*]; done)), H', ⟨by have := HJ3.out; have := HJ10.out; have := HJ19.out; first | omega | exact Nat.le_refl _⟩, ⟨by (with_reducible repeat (first | refine blk_drewN ?_ _ | refine blk_drew ?_ | refine blk_alloc ?_ _)); exact BK292.out⟩, ⟨by repeat (first | (with_reducible first | exact HB.out | apply below_alloc | apply pw_below_drewN | apply below_drew1 | refine below_set ?_ GE292.out) | exact HB.out)⟩⟩
                case rest =>
                  clear HC62
                  try clear c1
                  try clear c2
                  try clear p2
                  try clear c3
                  try clear c4
                  try clear c5
                  try clear c6
                  try clear c6b0
                  try clear c6b1
                  try clear c7
                  try clear c8
                  try clear c8b0
                  try clear c8b1
                  try clear c10
                  try clear c12
                  try clear c12b0
                  try clear c12b1
                  try clear c14
                  try clear c14b0
                  try clear c14b1
                  try clear c16
                  try clear c16b0
                  try clear c16b1
                  try clear c23
                  try clear c24
                  try clear c25
                  try clear c26
                  try clear c26b0
                  try clear c26b1
                  try clear c27
                  try clear c31
                  try clear c31b0
                  try clear c31b1
                  try clear c37
                  try clear c38
                  try clear c39
                  try clear c39b0
                  try clear c39b1
                  try clear c40
                  try clear c44
                  try clear c44b0
                  try clear c44b1
                  try clear c50
                  try clear c50b0
                  try clear c50b1
                  try clear c51
                  try clear c55
                  try clear c55b0
                  try clear c55b1
                  try clear c61
                  try clear c64
                  try clear c64b0
                  try clear c64b1
                  try clear hcz10_0
                  try clear hcz10_1
                  try clear hcz10_2
                  try clear hcz10_3
                  try clear hcz10_4
                  try clear hcz13_0
                  try clear hcz13_1
                  try clear hcz13_2
                  try clear hcz13_3
                  try clear hcz13_4
                  try clear hcz15_0
                  try clear hcz15_1
                  try clear hcz15_2
                  try clear hcz15_3
                  try clear hcz15_4
                  try clear hcz17_0
                  try clear hcz17_1
                  try clear hcz17_2
                  try clear hcz17_3
                  try clear hcz17_4
                  try clear hcz18_0
                  try clear hcz18_1
                  try clear hcz18_2
                  try clear hcz18_3
                  try clear hcz18_4
                  try clear hcz21_0
                  try clear hcz21_1
                  try clear hcz21_2
                  try clear hcz21_3
                  try clear hcz21_4
                  try clear hcz29_0
                  try clear hcz29_1
                  try clear hcz29_2
                  try clear hcz29_3
                  try clear hcz29_4
                  try clear hcz33_0
                  try clear hcz33_1
                  try clear hcz33_2
                  try clear hcz33_3
                  try clear hcz33_4
                  try clear hcz35_0
                  try clear hcz35_1
                  try clear hcz35_2
                  try clear hcz35_3
                  try clear hcz35_4
                  try clear hcz36_0
                  try clear hcz36_1
                  try clear hcz36_2
                  try clear hcz36_3
                  try clear hcz36_4
                  try clear hcz42_0
                  try clear hcz42_1
                  try clear hcz42_2
                  try clear hcz42_3
                  try clear hcz42_4
                  try clear hcz46_0
                  try clear hcz46_1
                  try clear hcz46_2
                  try clear hcz46_3
                  try clear hcz46_4
                  try clear hcz48_0
                  try clear hcz48_1
                  try clear hcz48_2
                  try clear hcz48_3
                  try clear hcz48_4
                  try clear hcz49_0
                  try clear hcz49_1
                  try clear hcz49_2
                  try clear hcz49_3
                  try clear hcz49_4
                  try clear hcz53_0
                  try clear hcz53_1
                  try clear hcz53_2
                  try clear hcz53_3
                  try clear hcz53_4
                  try clear hcz57_0
                  try clear hcz57_1
                  try clear hcz57_2
                  try clear hcz57_3
                  try clear hcz57_4
                  try clear hcz59_0
                  try clear hcz59_1
                  try clear hcz59_2
                  try clear hcz59_3
                  try clear hcz59_4
                  try clear hcz60_0
                  try clear hcz60_1
                  try clear hcz60_2
                  try clear hcz60_3
                  try clear hcz60_4
                  try clear hcz63_0
                  try clear hcz63_1
                  try clear hcz63_2
                  try clear hcz63_3
                  try clear hcz63_4
                  try clear hcz7_0
                  try clear hcz7_1
                  try clear hcz7_2
                  try clear hcz7_3
                  try clear hcz7_4
                  try clear hcz9_0
                  try clear hcz9_1
                  try clear hcz9_2
                  try clear hcz9_3
                  try clear hcz9_4
                  try clear hfz10_0
                  try clear hfz10_1
                  try clear hfz10_2
                  try clear hfz10_3
                  try clear hfz10_4
                  try clear hfz13_0
                  try clear hfz13_1
                  try clear hfz13_2
                  try clear hfz13_3
                  try clear hfz13_4
                  try clear hfz15_0
                  try clear hfz15_1
                  try clear hfz15_2
                  try clear hfz15_3
                  try clear hfz15_4
                  try clear hfz17_0
                  try clear hfz17_1
                  try clear hfz17_2
                  try clear hfz17_3
                  try clear hfz17_4
                  try clear hfz18_0
                  try clear hfz18_1
                  try clear hfz18_2
                  try clear hfz18_3
                  try clear hfz18_4
                  try clear hfz21_0
                  try clear hfz21_1
                  try clear hfz21_2
                  try clear hfz21_3
                  try clear hfz21_4
                  try clear hfz29_0
                  try clear hfz29_1
                  try clear hfz29_2
                  try clear hfz29_3
                  try clear hfz29_4
                  try clear hfz33_0
                  try clear hfz33_1
                  try clear hfz33_2
                  try clear hfz33_3
                  try clear hfz33_4
                  try clear hfz35_0
                  try clear hfz35_1
                  try clear hfz35_2
                  try clear hfz35_3
                  try clear hfz35_4
                  try clear hfz36_0
                  try clear hfz36_1
                  try clear hfz36_2
                  try clear hfz36_3
                  try clear hfz36_4
                  try clear hfz42_0
                  try clear hfz42_1
                  try clear hfz42_2
                  try clear hfz42_3
                  try clear hfz42_4
                  try clear hfz46_0
                  try clear hfz46_1
                  try clear hfz46_2
                  try clear hfz46_3
                  try clear hfz46_4
                  try clear hfz48_0
                  try clear hfz48_1
                  try clear hfz48_2
                  try clear hfz48_3
                  try clear hfz48_4
                  try clear hfz49_0
                  try clear hfz49_1
                  try clear hfz49_2
                  try clear hfz49_3
                  try clear hfz49_4
                  try clear hfz53_0
                  try clear hfz53_1
                  try clear hfz53_2
                  try clear hfz53_3
                  try clear hfz53_4
                  try clear hfz57_0
                  try clear hfz57_1
                  try clear hfz57_2
                  try clear hfz57_3
                  try clear hfz57_4
                  try clear hfz59_0
                  try clear hfz59_1
                  try clear hfz59_2
                  try clear hfz59_3
                  try clear hfz59_4
                  try clear hfz60_0
                  try clear hfz60_1
                  try clear hfz60_2
                  try clear hfz60_3
                  try clear hfz60_4
                  try clear hfz63_0
                  try clear hfz63_1
                  try clear hfz63_2
                  try clear hfz63_3
                  try clear hfz63_4
                  try clear hfz7_0
                  try clear hfz7_1
                  try clear hfz7_2
                  try clear hfz7_3
                  try clear hfz7_4
                  try clear hfz9_0
                  try clear hfz9_1
                  try clear hfz9_2
                  try clear hfz9_3
                  try clear hfz9_4
                  try clear p2
                  obtain ⟨kq, x81_61, rfl, HA, HJ61, BK292, HB⟩ := hcut
                  cases kq with
                  | zero => exact absurd HA.out (by simp [provenanceref2_goodForm.j3])
                  | succ kj61 =>
                    have H := HA.out
                    clear HA
                    simp only [provenanceref2_goodForm.j3] at H
                    by_cases c65 : x81_61 = true
                    · subst c65
                      have H1 : (some true) = some r := by rw [if_pos rfl] at H; exact H
                      clear H
                      have H := H1
                      clear H1
                      obtain rfl := Option.some.inj H
                      go_wp2
                      go_ret
                      exact ⟨by first | rfl | (simp [errW_none, errW_some] <;> rfl) | (simp [*, errW_none, errW_some] <;> rfl), by repeat (first | (with_reducible first | exact HB.out | apply below_alloc | apply pw_below_drewN | apply below_drew1 | refine below_set ?_ GE292.out) | exact HB.out)⟩
                    · replace c65 := Bool.eq_false_iff.mpr c65
                      subst c65
                      have H1 : (if a1_0 = 4 then (some ((l1_2.length : Int) == 1)) else (if a1_0 = 5 then (some (decide ((l1_2.length : Int) > 0))) else (some ((l1_2.length : Int) == 0)))) = some r := by rw [if_neg (show ¬ (false = true) by decide)] at H; exact H
                      clear H
                      have H := H1
                      clear H1
                      by_cases c66 : a1_0 = 4
                      · rw [if_pos c66] at H
                        have c66b0 : (a1_0 == 4) = true := beq_iff_eq.mpr c66
                        have c66b1 : (a1_0 != 4) = false := bne_eq_false_iff_eq.mpr c66
                        clear c66
                        obtain rfl := Option.some.inj H
                        have hcz67_0 : wc.cell? ⟨gb292, 0, none⟩ = some (.int .i64 a1_0) := (blk_cell BK292.out 0).trans rfl
                        have hcz67_1 : wc.cell? ⟨gb292, 1, none⟩ = some (.int .i64 a1_1) := (blk_cell BK292.out 1).trans rfl
                        have hcz67_2 : wc.cell? ⟨gb292, 2, none⟩ = some (.slice A1_2 l1_2.length c1_2) := (blk_cell BK292.out 2).trans rfl
                        have hcz67_3 : wc.cell? ⟨gb292, 3, none⟩ = some (.slice A1_3 l1_3.length c1_3) := (blk_cell BK292.out 3).trans rfl
                        have hcz67_4 : wc.cell? ⟨gb292, 4, none⟩ = some (.slice A1_4 l1_4.length c1_4) := (blk_cell BK292.out 4).trans rfl
                        have hfz67_0 := blk_frozen BK292.out 0
                        have hfz67_1 := blk_frozen BK292.out 1
                        have hfz67_2 := blk_frozen BK292.out 2
                        have hfz67_3 := blk_frozen BK292.out 3
                        have hfz67_4 := blk_frozen BK292.out 4
                        go_wp2
                        go_ret
                        exact ⟨by first | rfl | (simp [errW_none, errW_some] <;> rfl) | (simp [*, errW_none, errW_some] <;> rfl), by repeat (first | (with_reducible first | exact HB.out | apply below_alloc | apply pw_below_drewN | apply below_drew1 | refine below_set ?_ GE292.out) | exact HB.out)⟩
                      · rw [if_neg c66] at H
                        have c66b0 : (a1_0 == 4) = false := beq_eq_false_iff_ne.mpr c66
                        have c66b1 : (a1_0 != 4) = true := bne_iff_ne.mpr c66
                        by_cases c68 : a1_0 = 5
                        · rw [if_pos c68] at H
                          have c68b0 : (a1_0 == 5) = true := beq_iff_eq.mpr c68
                          have c68b1 : (a1_0 != 5) = false := bne_eq_false_iff_eq.mpr c68
                          clear c68
                          obtain rfl := Option.some.inj H
                          have hcz69_0 : wc.cell? ⟨gb292, 0, none⟩ = some (.int .i64 a1_0) := (blk_cell BK292.out 0).trans rfl
                          have hcz69_1 : wc.cell? ⟨gb292, 1, none⟩ = some (.int .i64 a1_1) := (blk_cell BK292.out 1).trans rfl
                          have hcz69_2 : wc.cell? ⟨gb292, 2, none⟩ = some (.slice A1_2 l1_2.length c1_2) := (blk_cell BK292.out 2).trans rfl
                          have hcz69_3 : wc.cell? ⟨gb292, 3, none⟩ = some (.slice A1_3 l1_3.length c1_3) := (blk_cell BK292.out 3).trans rfl
                          have hcz69_4 : wc.cell? ⟨gb292, 4, none⟩ = some (.slice A1_4 l1_4.length c1_4) := (blk_cell BK292.out 4).trans rfl
                          have hfz69_0 := blk_frozen BK292.out 0
                          have hfz69_1 := blk_frozen BK292.out 1
                          have hfz69_2 := blk_frozen BK292.out 2
                          have hfz69_3 := blk_frozen BK292.out 3
                          have hfz69_4 := blk_frozen BK292.out 4
                          go_wp2
                          go_ret
                          exact ⟨by first | rfl | (simp [errW_none, errW_some] <;> rfl) | (simp [*, errW_none, errW_some] <;> rfl), by repeat (first | (with_reducible first | exact HB.out | apply below_alloc | apply pw_below_drewN | apply below_drew1 | refine below_set ?_ GE292.out) | exact HB.out)⟩
                        · rw [if_neg c68] at H
                          have c68b0 : (a1_0 == 5) = false := beq_eq_false_iff_ne.mpr c68
                          have c68b1 : (a1_0 != 5) = true := bne_iff_ne.mpr c68
                          obtain rfl := Option.some.inj H
                          have hcz70_0 : wc.cell? ⟨gb292, 0, none⟩ = some (.int .i64 a1_0) := (blk_cell BK292.out 0).trans rfl
                          have hcz70_1 : wc.cell? ⟨gb292, 1, none⟩ = some (.int .i64 a1_1) := (blk_cell BK292.out 1).trans rfl
                          have hcz70_2 : wc.cell? ⟨gb292, 2, none⟩ = some (.slice A1_2 l1_2.length c1_2) := (blk_cell BK292.out 2).trans rfl
                          have hcz70_3 : wc.cell? ⟨gb292, 3, none⟩ = some (.slice A1_3 l1_3.length c1_3) := (blk_cell BK292.out 3).trans rfl
                          have hcz70_4 : wc.cell? ⟨gb292, 4, none⟩ = some (.slice A1_4 l1_4.length c1_4) := (blk_cell BK292.out 4).trans rfl
                          have hfz70_0 := blk_frozen BK292.out 0
                          have hfz70_1 := blk_frozen BK292.out 1
                          have hfz70_2 := blk_frozen BK292.out 2
                          have hfz70_3 := blk_frozen BK292.out 3
                          have hfz70_4 := blk_frozen BK292.out 4
                          go_wp2
                          go_ret
                          exact ⟨by first | rfl | (simp [errW_none, errW_some] <;> rfl) | (simp [*, errW_none, errW_some] <;> rfl), by repeat (first | (with_reducible first | exact HB.out | apply below_alloc | apply pw_below_drewN | apply below_drew1 | refine below_set ?_ GE292.out) | exact HB.out)⟩

end Go.Proofs.YtjhinklijopobaaDoor.PCoreChecks
