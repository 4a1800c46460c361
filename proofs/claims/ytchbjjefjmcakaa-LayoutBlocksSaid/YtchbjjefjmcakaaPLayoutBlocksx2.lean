-- PRINTED BY print.sh 35421559b90ae4d0a3588c463048766b98c2df88dd9212a6774a882060cdf62d: not written by this session
import Derived.Test.YtchbjjefjmcakaaPLayoutBlocksx0
namespace Go.Proofs.Ytchbjjefjmcakaa.PLayoutBlocks
open Go.RowKit Go.Proofs.YtchbjjefjmcakaaW.PrintWords Go.Proofs.YtchbjjefjmcakaaW.PrintLast Go.Proofs.YtchbjjefjmcakaaW.PrintMore
attribute [local go_sem] max2_int min2_int max_two min_two max_three min_three max_four min_four   -- for this text's walks alone
set_option linter.unusedVariables false
set_option linter.unusedSimpArgs false

/-! ### layout_Check: function 6 -/
mutual
def layout_Check.j0 : Nat → List (S27) → Bool → Option (Int)
  | 0, _, _ => none
  | k + 1, x0, x20 => if x20 = true then (some 3) else (layout_Check.l0 k x0 x0 (x0.length : Int) 0)
def layout_Check.l0 : Nat → List (S27) → List (S27) → Int → Int → Option (Int)
  | 0, _, _, _, _ => none
  | k + 1, x0, x21, x22, x23 => if x23 < x22 then (if 0 ≤ x23 then (if x23 < (x21.length : Int) then (if ((rd_T27 x21 x23).f3) < 1 then (layout_Check.j2 k x0 x23 x21 x22 x23 true ((rd_T27 x21 x23).f0) ((rd_T27 x21 x23).f1) ((rd_T27 x21 x23).f2) ((rd_T27 x21 x23).f3) ((rd_T27 x21 x23).f4)) else (layout_Check.j2 k x0 x23 x21 x22 x23 (decide (((rd_T27 x21 x23).f4) < 1)) ((rd_T27 x21 x23).f0) ((rd_T27 x21 x23).f1) ((rd_T27 x21 x23).f2) ((rd_T27 x21 x23).f3) ((rd_T27 x21 x23).f4))) else (none)) else (none)) else (some 0)
def layout_Check.j2 : Nat → List (S27) → Int → List (S27) → Int → Int → Bool → Int → ByteArray → Int → Int → Int → Option (Int)
  | 0, _, _, _, _, _, _, _, _, _, _, _ => none
  | k + 1, x0, x3, x21, x22, x23, x28, x104000, x104001, x104002, x104003, x104004 => if x28 = true then (some 4) else (if x104000 < 0 then (layout_Check.j3 k x0 x3 x21 x22 x23 true x104000 x104001 x104002 x104003 x104004) else (if x104000 > 9 then (layout_Check.j3 k x0 x3 x21 x22 x23 true x104000 x104001 x104002 x104003 x104004) else (if x104000 ≥ 6 then (if x104000 ≤ 8 then (layout_Check.j3 k x0 x3 x21 x22 x23 true x104000 x104001 x104002 x104003 x104004) else (layout_Check.j3 k x0 x3 x21 x22 x23 ((x104000 == 9) != (x3 == (wrap64 ((x0.length : Int) - 1)))) x104000 x104001 x104002 x104003 x104004)) else (layout_Check.j3 k x0 x3 x21 x22 x23 ((x104000 == 9) != (x3 == (wrap64 ((x0.length : Int) - 1)))) x104000 x104001 x104002 x104003 x104004))))
def layout_Check.j3 : Nat → List (S27) → Int → List (S27) → Int → Int → Bool → Int → ByteArray → Int → Int → Int → Option (Int)
  | 0, _, _, _, _, _, _, _, _, _, _, _ => none
  | k + 1, x0, x3, x21, x22, x23, x37, x104000, x104001, x104002, x104003, x104004 => if x37 = true then (some 3) else (if x3 > 0 then (if 0 ≤ (wrap64 (x3 - 1)) then (if (wrap64 (x3 - 1)) < (x0.length : Int) then (if x104003 < ((rd_T27 x0 (wrap64 (x3 - 1))).f3) then (some 3) else (if x104003 = ((rd_T27 x0 (wrap64 (x3 - 1))).f3) then (if x104004 < ((rd_T27 x0 (wrap64 (x3 - 1))).f4) then (some 3) else (layout_Check.l0 k x0 x21 x22 (wrap64 (x23 + 1)))) else (layout_Check.l0 k x0 x21 x22 (wrap64 (x23 + 1))))) else (none)) else (none)) else (layout_Check.l0 k x0 x21 x22 (wrap64 (x23 + 1))))
end
def layout_Check.f (k : Nat) (l0 : List (S27)) : Option (Int) := if (l0.length : Int) > 8193 then (some 2) else (if (l0.length : Int) = 0 then (layout_Check.j0 k l0 true) else (if 0 ≤ (wrap64 ((l0.length : Int) - 1)) then (if (wrap64 ((l0.length : Int) - 1)) < (l0.length : Int) then (layout_Check.j0 k l0 (((rd_T27 l0 (wrap64 ((l0.length : Int) - 1))).f0) != 9)) else (none)) else (none)))
theorem layout_Check.mono_l : ∀ k, (∀ y0 y1, LeO (layout_Check.j0 k y0 y1) (layout_Check.j0 (k + 1) y0 y1)) ∧ (∀ y0 y1 y2 y3, LeO (layout_Check.l0 k y0 y1 y2 y3) (layout_Check.l0 (k + 1) y0 y1 y2 y3)) ∧ (∀ y0 y1 y2 y3 y4 y5 y6 y7 y8 y9 y10, LeO (layout_Check.j2 k y0 y1 y2 y3 y4 y5 y6 y7 y8 y9 y10) (layout_Check.j2 (k + 1) y0 y1 y2 y3 y4 y5 y6 y7 y8 y9 y10)) ∧ (∀ y0 y1 y2 y3 y4 y5 y6 y7 y8 y9 y10, LeO (layout_Check.j3 k y0 y1 y2 y3 y4 y5 y6 y7 y8 y9 y10) (layout_Check.j3 (k + 1) y0 y1 y2 y3 y4 y5 y6 y7 y8 y9 y10))
  | 0 => ⟨fun _ _ r h => by simp [layout_Check.j0] at h, fun _ _ _ _ r h => by simp [layout_Check.l0] at h, fun _ _ _ _ _ _ _ _ _ _ _ r h => by simp [layout_Check.j2] at h, fun _ _ _ _ _ _ _ _ _ _ _ r h => by simp [layout_Check.j3] at h⟩
  | k + 1 => by
    obtain ⟨ih0, ih1, ih2, ih3⟩ := layout_Check.mono_l k
    refine ⟨?_, ?_, ?_, ?_⟩
    · intro y0 y1
      unfold layout_Check.j0
      repeat' first
      | (with_reducible exact ih0 _ _)
      | (with_reducible exact ih1 _ _ _ _)
      | (with_reducible exact ih2 _ _ _ _ _ _ _ _ _ _ _)
      | (with_reducible exact ih3 _ _ _ _ _ _ _ _ _ _ _)
      | (with_reducible exact LeO.refl _)
      | (with_reducible exact LeO.none _)
      | (with_reducible refine LeO.ite ?_ ?_)
      | (with_reducible refine LeO.bind ?_ (fun _ => ?_))
      | exact ih0 _ _
      | exact ih1 _ _ _ _
      | exact ih2 _ _ _ _ _ _ _ _ _ _ _
      | exact ih3 _ _ _ _ _ _ _ _ _ _ _
      | exact LeO.none _
      | refine LeO.ite ?_ ?_
      | refine LeO.bind ?_ (fun _ => ?_)
    · intro y0 y1 y2 y3
      unfold layout_Check.l0
      repeat' first
      | (with_reducible exact ih0 _ _)
      | (with_reducible exact ih1 _ _ _ _)
      | (with_reducible exact ih2 _ _ _ _ _ _ _ _ _ _ _)
      | (with_reducible exact ih3 _ _ _ _ _ _ _ _ _ _ _)
      | (with_reducible exact LeO.refl _)
      | (with_reducible exact LeO.none _)
      | (with_reducible refine LeO.ite ?_ ?_)
      | (with_reducible refine LeO.bind ?_ (fun _ => ?_))
      | exact ih0 _ _
      | exact ih1 _ _ _ _
      | exact ih2 _ _ _ _ _ _ _ _ _ _ _
      | exact ih3 _ _ _ _ _ _ _ _ _ _ _
      | exact LeO.none _
      | refine LeO.ite ?_ ?_
      | refine LeO.bind ?_ (fun _ => ?_)
    · intro y0 y1 y2 y3 y4 y5 y6 y7 y8 y9 y10
      unfold layout_Check.j2
      repeat' first
      | (with_reducible exact ih0 _ _)
      | (with_reducible exact ih1 _ _ _ _)
      | (with_reducible exact ih2 _ _ _ _ _ _ _ _ _ _ _)
      | (with_reducible exact ih3 _ _ _ _ _ _ _ _ _ _ _)
      | (with_reducible exact LeO.refl _)
      | (with_reducible exact LeO.none _)
      | (with_reducible refine LeO.ite ?_ ?_)
      | (with_reducible refine LeO.bind ?_ (fun _ => ?_))
      | exact ih0 _ _
      | exact ih1 _ _ _ _
      | exact ih2 _ _ _ _ _ _ _ _ _ _ _
      | exact ih3 _ _ _ _ _ _ _ _ _ _ _
      | exact LeO.none _
      | refine LeO.ite ?_ ?_
      | refine LeO.bind ?_ (fun _ => ?_)
    · intro y0 y1 y2 y3 y4 y5 y6 y7 y8 y9 y10
      unfold layout_Check.j3
      repeat' first
      | (with_reducible exact ih0 _ _)
      | (with_reducible exact ih1 _ _ _ _)
      | (with_reducible exact ih2 _ _ _ _ _ _ _ _ _ _ _)
      | (with_reducible exact ih3 _ _ _ _ _ _ _ _ _ _ _)
      | (with_reducible exact LeO.refl _)
      | (with_reducible exact LeO.none _)
      | (with_reducible refine LeO.ite ?_ ?_)
      | (with_reducible refine LeO.bind ?_ (fun _ => ?_))
      | exact ih0 _ _
      | exact ih1 _ _ _ _
      | exact ih2 _ _ _ _ _ _ _ _ _ _ _
      | exact ih3 _ _ _ _ _ _ _ _ _ _ _
      | exact LeO.none _
      | refine LeO.ite ?_ ?_
      | refine LeO.bind ?_ (fun _ => ?_)
theorem layout_Check.mono : ∀ a0 k, LeO (layout_Check.f k a0) (layout_Check.f (k + 1) a0) := by
  intro a0 k
  obtain ⟨ih0, ih1, ih2, ih3⟩ := layout_Check.mono_l k
  unfold layout_Check.f
  repeat' first
      | (with_reducible exact ih0 _ _)
      | (with_reducible exact ih1 _ _ _ _)
      | (with_reducible exact ih2 _ _ _ _ _ _ _ _ _ _ _)
      | (with_reducible exact ih3 _ _ _ _ _ _ _ _ _ _ _)
      | (with_reducible exact LeO.refl _)
      | (with_reducible exact LeO.none _)
      | (with_reducible refine LeO.ite ?_ ?_)
      | (with_reducible refine LeO.bind ?_ (fun _ => ?_))
      | exact ih0 _ _
      | exact ih1 _ _ _ _
      | exact ih2 _ _ _ _ _ _ _ _ _ _ _
      | exact ih3 _ _ _ _ _ _ _ _ _ _ _
      | exact LeO.none _
      | refine LeO.ite ?_ ?_
      | refine LeO.bind ?_ (fun _ => ?_)
set_option maxHeartbeats 8000000 in
set_option maxRecDepth 100000 in
theorem layout_Check.calls (k : Nat) (A0 : Option Addr) (c0 : Nat) (l0 : List (S27)) (r : Int) (w : World) (hr0 : Kd.C k27 w A0 l0.length l0) (hc0 : l0.length ≤ c0) (h : layout_Check.f k l0 = some r) :
    Calls Try.prog 6 #[.slice A0 l0.length c0] w fun e w' => e = .returned (.int .i64 r) ∧ Below w.heap.size w w' := by
  have hu27 := Try.underlying27
  have HR0 := Aside0.mk hr0
  have HC0 := Aside0.mk hc0
  clear hr0 hc0
  have HB := Aside0.mk (Below.refl w.heap.size w)
  have H : (if (l0.length : Int) > 8193 then (some 2) else (if (l0.length : Int) = 0 then (layout_Check.j0 k l0 true) else (if 0 ≤ (wrap64 ((l0.length : Int) - 1)) then (if (wrap64 ((l0.length : Int) - 1)) < (l0.length : Int) then (layout_Check.j0 k l0 (((rd_T27 l0 (wrap64 ((l0.length : Int) - 1))).f0) != 9)) else (none)) else (none)))) = some r := h
  clear h
  by_cases c2 : (l0.length : Int) > 8193
  · rw [if_pos c2] at H
    have c2b0 : decide (8193 < (l0.length : Int)) = true := decide_eq_true c2
    have c2b1 : decide (8193 < l0.length) = true := decide_eq_true (by omega)
    clear c2
    obtain rfl := Option.some.inj H
    go_enter Try.func6, Try.ntmps6
    go_wp2
    repeat (go_quiet (fail); try go_wp2)
    go_ret
    exact ⟨by first | rfl | (simp [errW_none, errW_some] <;> rfl) | (simp [*, errW_none, errW_some] <;> rfl), by repeat (first | (with_reducible first | exact HB.out | apply below_alloc | apply pw_below_drewN | apply below_drew1) | exact HB.out)⟩
  · rw [if_neg c2] at H
    have c2b0 : decide (8193 < (l0.length : Int)) = false := decide_eq_false c2
    have c2b1 : decide (8193 < l0.length) = false := decide_eq_false (by omega)
    clear c2
    have HC3 := Aside0.mk H
    clear H
    go_enter Try.func6, Try.ntmps6
    go_upto_region 3 with (fail)
    repeat (go_quiet (fail); go_upto_region 3 with (fail))
    go_cut [20] (fun v20 wc => ∃ (kq : Nat) (x20_2 : Bool), v20 = .bool x20_2 ∧ Aside0 (layout_Check.j0 kq l0 x20_2 = some r) ∧ Aside0 (kq ≤ k) ∧ Aside0 (Below w.heap.size w wc))
    case first =>
      have H := HC3.out
      clear HC3
      by_cases c4 : (l0.length : Int) = 0
      · rw [if_pos c4] at H
        have c4b0 : ((l0.length : Int) == 0) = true := beq_iff_eq.mpr c4
        have c4b1 : ((l0.length : Int) != 0) = false := bne_eq_false_iff_eq.mpr c4
        clear c4
        (first | rw [c4b0] | (simp only [i64_w, i32_w]; rw [c4b0]) | skip)
        have H' := Aside0.mk H
        clear H
        go_wp2
        repeat (go_quiet (fail); try go_wp2)
        go_meet
        case rel => exact ⟨_, (true), (by first | rfl | (simp; done) | (simp [*]; done)), H', ⟨by first | omega | exact Nat.le_refl _⟩, ⟨by repeat (first | (with_reducible first | exact HB.out | apply below_alloc | apply pw_below_drewN | apply below_drew1) | exact HB.out)⟩⟩
      · rw [if_neg c4] at H
        have c4b0 : ((l0.length : Int) == 0) = false := beq_eq_false_iff_ne.mpr c4
        have c4b1 : ((l0.length : Int) != 0) = true := bne_iff_ne.mpr c4
        have c4b2 : ¬ (l0 = []) := fun h_ => c4 (by rw [h_]; rfl)
        (first | rw [c4b0] | (simp only [i64_w, i32_w]; rw [c4b0]) | skip)
        obtain ⟨ji5, hji5⟩ : ∃ j_ : Int, (wrap64 ((l0.length : Int) - 1)) = j_ := ⟨_, rfl⟩
        replace H : (if 0 ≤ (ji5) then (if (ji5) < (l0.length : Int) then (layout_Check.j0 k l0 (((rd_T27 l0 (ji5)).f0) != 9)) else (none)) else (none)) = some r := by first | (rw [hji5] at H; exact H) | (simp only [hji5] at H ⊢; exact H)
        have hji5w : (IntKind.i64.wrap ((l0.length : Int) - 1)) = ji5 := (i64_w _).trans hji5
        by_cases c6 : 0 ≤ (ji5)
        · rw [if_pos c6] at H
          have c6b0 : decide (0 ≤ (ji5)) = true := decide_eq_true c6
          clear c6
          by_cases c7 : (ji5) < (l0.length : Int)
          · rw [if_pos c7] at H
            have c7b0 : decide ((ji5) < (l0.length : Int)) = true := decide_eq_true c7
            clear c7
            have H' := Aside0.mk H
            clear H
            have p101 : 0 ≤ ((ji5) : Int) := of_decide_eq_true (by first | (with_reducible assumption) | assumption)
            have q101 : (ji5) < (l0.length : Int) := of_decide_eq_true (by first | (with_reducible assumption) | assumption)
            obtain ⟨ad101, e101, hx101_0, hx101_1, hx101_2, hx101_3, hx101_4⟩ := at_T27 HR0.out (ji5) p101 q101
            cases e101
            replace hx101_0 := (HB.out.cell (World.block_lt_of_cell? w _ hx101_0)).trans hx101_0
            replace hx101_1 := (HB.out.cell (World.block_lt_of_cell? w _ hx101_1)).trans hx101_1
            replace hx101_2 := (HB.out.cell (World.block_lt_of_cell? w _ hx101_2)).trans hx101_2
            replace hx101_3 := (HB.out.cell (World.block_lt_of_cell? w _ hx101_3)).trans hx101_3
            replace hx101_4 := (HB.out.cell (World.block_lt_of_cell? w _ hx101_4)).trans hx101_4
            replace p101 := eq_true p101
            replace q101 := eq_true q101
            go_wp2
            repeat (go_quiet (fail); try go_wp2)
            go_meet
            case rel => exact ⟨_, ((((rd_T27 l0 (ji5)).f0) != 9)), (by first | rfl | (simp; done) | (simp only [← hji5] <;> (first | rfl | simp)) | (simp [*]; done)), H', ⟨by first | omega | exact Nat.le_refl _⟩, ⟨by repeat (first | (with_reducible first | exact HB.out | apply below_alloc | apply pw_below_drewN | apply below_drew1) | exact HB.out)⟩⟩
          · rw [if_neg c7] at H
            exact absurd H (by simp)
        · rw [if_neg c6] at H
          exact absurd H (by simp)
    case rest =>
      clear HC3
      try clear p1
      try clear q1
      try clear hx1
      try clear c2
      try clear c2b0
      try clear c2b1
      try clear p2
      try clear c4
      try clear c4b0
      try clear c4b1
      try clear c4b2
      try clear c6
      try clear c6b0
      try clear p6
      try clear c7
      try clear c7b0
      try clear hx101_0
      try clear hx101_1
      try clear hx101_2
      try clear hx101_3
      try clear hx101_4
      try clear p101
      try clear q101
      obtain ⟨kq, x20_2, rfl, HA, HJ2, HB⟩ := hcut
      cases kq with
      | zero => exact absurd HA.out (by simp [layout_Check.j0])
      | succ kj2 =>
        have H := HA.out
        clear HA
        simp only [layout_Check.j0] at H
        by_cases c8 : x20_2 = true
        · subst c8
          have H1 : (some 3) = some r := by rw [if_pos rfl] at H; exact H
          clear H
          have H := H1
          clear H1
          obtain rfl := Option.some.inj H
          go_wp2
          repeat (go_quiet (fail); try go_wp2)
          go_ret
          exact ⟨by first | rfl | (simp [errW_none, errW_some] <;> rfl) | (simp [*, errW_none, errW_some] <;> rfl), by repeat (first | (with_reducible first | exact HB.out | apply below_alloc | apply pw_below_drewN | apply below_drew1) | exact HB.out)⟩
        · replace c8 := Bool.eq_false_iff.mpr c8
          subst c8
          have H1 : (layout_Check.l0 kj2 l0 l0 (l0.length : Int) 0) = some r := by rw [if_neg (show ¬ (false = true) by decide)] at H; exact H
          clear H
          have H := H1
          clear H1
          have H' := Aside0.mk H
          clear H
          go_wp2
          repeat (go_quiet (fail); try go_wp2)
          go_loopg [23] kj2 (fun kq v23 w' => ∃ (x23_2 : Int), v23 = .int .i64 x23_2 ∧ Aside0 (layout_Check.l0 kq l0 l0 (l0.length : Int) x23_2 = some r) ∧ Aside0 (kq ≤ kj2) ∧ Aside0 (Below w.heap.size w w'))
          case atStart => exact ⟨(0), (by first | rfl | (simp; done) | (simp [*]; done)), H', ⟨Nat.le_refl _⟩, ⟨by repeat (first | (with_reducible first | exact HB.out | apply below_alloc | apply pw_below_drewN | apply below_drew1) | exact HB.out)⟩⟩
          case round =>
            clear H'
            try clear p1
            try clear q1
            try clear hx1
            try clear c2
            try clear c2b0
            try clear c2b1
            try clear p2
            try clear c4
            try clear c4b0
            try clear c4b1
            try clear c4b2
            try clear c6
            try clear c6b0
            try clear p6
            try clear c7
            try clear c7b0
            try clear c8
            try clear hx101_0
            try clear hx101_1
            try clear hx101_2
            try clear hx101_3
            try clear hx101_4
            try clear p1
            try clear p101
            try clear p2
            try clear p6
            try clear q1
            try clear q101
            obtain ⟨x23_2, rfl, HA, HK2, HB⟩ := hrel
            cases gk with
            | zero => exact absurd HA.out (by simp [layout_Check.l0])
            | succ k2 =>
              have H := HA.out
              clear HA
              simp only [layout_Check.l0] at H
              by_cases c9 : x23_2 < (l0.length : Int)
              · rw [if_pos c9] at H
                have c9b0 : decide (x23_2 < (l0.length : Int)) = true := decide_eq_true c9
                clear c9
                by_cases c10 : 0 ≤ x23_2
                · rw [if_pos c10] at H
                  have c10b0 : decide (0 ≤ x23_2) = true := decide_eq_true c10
                  clear c10
                  by_cases c11 : x23_2 < (l0.length : Int)
                  · rw [if_pos c11] at H
                    have c11b0 : decide (x23_2 < (l0.length : Int)) = true := decide_eq_true c11
                    clear c11
                    have HC12 := Aside0.mk H
                    clear H
                    have p102 : 0 ≤ (x23_2 : Int) := of_decide_eq_true (by first | (with_reducible assumption) | assumption)
                    have q102 : x23_2 < (l0.length : Int) := of_decide_eq_true (by first | (with_reducible assumption) | assumption)
                    obtain ⟨ad102, e102, hx102_0, hx102_1, hx102_2, hx102_3, hx102_4⟩ := at_T27 HR0.out x23_2 p102 q102
                    cases e102
                    replace hx102_0 := (HB.out.cell (World.block_lt_of_cell? w _ hx102_0)).trans hx102_0
                    replace hx102_1 := (HB.out.cell (World.block_lt_of_cell? w _ hx102_1)).trans hx102_1
                    replace hx102_2 := (HB.out.cell (World.block_lt_of_cell? w _ hx102_2)).trans hx102_2
                    replace hx102_3 := (HB.out.cell (World.block_lt_of_cell? w _ hx102_3)).trans hx102_3
                    replace hx102_4 := (HB.out.cell (World.block_lt_of_cell? w _ hx102_4)).trans hx102_4
                    replace p102 := eq_true p102
                    replace q102 := eq_true q102
                    go_upto_region 8 with (first | ((with_reducible refine gate_dst (N := 4) rfl ?_); (try (refine gate_guard (by rfl) ?_; dsimp only)); refine box_event ?hg (N := 4) ?hd (cs := #[.int .i64 0, .string (⟨#[]⟩ : ByteArray), .int .i64 0, .int .i64 0, .int .i64 0]) (t := 27) ?hr ?_; (case hd => rfl); (case hg => rfl); (case hr => first | (go_simp; done) | (go_simp; rfl)); intro gb103 hg w13 hbox hb; have n0_ := Aside0.mk (below_step (by repeat (first | (with_reducible first | exact HB.out | apply below_alloc | apply pw_below_drewN | apply below_drew1) | exact HB.out)) hb); have n1_ := Aside0.mk (hbox); have n2_ := Aside0.mk ((by rw [hg]; exact (below_size (by repeat (first | (with_reducible first | exact HB.out | apply below_alloc | apply pw_below_drewN | apply below_drew1) | exact HB.out))) : w.heap.size ≤ gb103)); have n3_ := Aside0.mk ((by rw [hg]; exact (below_size (by repeat (first | (with_reducible first | exact HB.out | apply below_alloc | apply pw_below_drewN | apply below_drew1) | exact HB.out))) : w.heap.size ≤ gb103)); clear HB; have HB := n0_; have BK103 := n1_; have GW103 := n2_; have GE103 := n3_; clear n0_ n1_ n2_ n3_; clear hb hbox hg; have hcz14_0 : w13.cell? ⟨gb103, 0, none⟩ = some (.int .i64 0) := (blk_cell BK103.out 0).trans rfl; have hcz14_1 : w13.cell? ⟨gb103, 1, none⟩ = some (.string (⟨#[]⟩ : ByteArray)) := (blk_cell BK103.out 1).trans rfl; have hcz14_2 : w13.cell? ⟨gb103, 2, none⟩ = some (.int .i64 0) := (blk_cell BK103.out 2).trans rfl; have hcz14_3 : w13.cell? ⟨gb103, 3, none⟩ = some (.int .i64 0) := (blk_cell BK103.out 3).trans rfl; have hcz14_4 : w13.cell? ⟨gb103, 4, none⟩ = some (.int .i64 0) := (blk_cell BK103.out 4).trans rfl; have hfz14_0 := blk_frozen BK103.out 0; have hfz14_1 := blk_frozen BK103.out 1; have hfz14_2 := blk_frozen BK103.out 2; have hfz14_3 := blk_frozen BK103.out 3; have hfz14_4 := blk_frozen BK103.out 4))
                    repeat (go_quiet (first | ((with_reducible refine gate_dst (N := 4) rfl ?_); (try (refine gate_guard (by rfl) ?_; dsimp only)); refine box_event ?hg (N := 4) ?hd (cs := #[.int .i64 0, .string (⟨#[]⟩ : ByteArray), .int .i64 0, .int .i64 0, .int .i64 0]) (t := 27) ?hr ?_; (case hd => rfl); (case hg => rfl); (case hr => first | (go_simp; done) | (go_simp; rfl)); intro gb103 hg w13 hbox hb; have n0_ := Aside0.mk (below_step (by repeat (first | (with_reducible first | exact HB.out | apply below_alloc | apply pw_below_drewN | apply below_drew1) | exact HB.out)) hb); have n1_ := Aside0.mk (hbox); have n2_ := Aside0.mk ((by rw [hg]; exact (below_size (by repeat (first | (with_reducible first | exact HB.out | apply below_alloc | apply pw_below_drewN | apply below_drew1) | exact HB.out))) : w.heap.size ≤ gb103)); have n3_ := Aside0.mk ((by rw [hg]; exact (below_size (by repeat (first | (with_reducible first | exact HB.out | apply below_alloc | apply pw_below_drewN | apply below_drew1) | exact HB.out))) : w.heap.size ≤ gb103)); clear HB; have HB := n0_; have BK103 := n1_; have GW103 := n2_; have GE103 := n3_; clear n0_ n1_ n2_ n3_; clear hb hbox hg; have hcz14_0 : w13.cell? ⟨gb103, 0, none⟩ = some (.int .i64 0) := (blk_cell BK103.out 0).trans rfl; have hcz14_1 : w13.cell? ⟨gb103, 1, none⟩ = some (.string (⟨#[]⟩ : ByteArray)) := (blk_cell BK103.out 1).trans rfl; have hcz14_2 : w13.cell? ⟨gb103, 2, none⟩ = some (.int .i64 0) := (blk_cell BK103.out 2).trans rfl; have hcz14_3 : w13.cell? ⟨gb103, 3, none⟩ = some (.int .i64 0) := (blk_cell BK103.out 3).trans rfl; have hcz14_4 : w13.cell? ⟨gb103, 4, none⟩ = some (.int .i64 0) := (blk_cell BK103.out 4).trans rfl; have hfz14_0 := blk_frozen BK103.out 0; have hfz14_1 := blk_frozen BK103.out 1; have hfz14_2 := blk_frozen BK103.out 2; have hfz14_3 := blk_frozen BK103.out 3; have hfz14_4 := blk_frozen BK103.out 4)); go_upto_region 8 with (first | ((with_reducible refine gate_dst (N := 4) rfl ?_); (try (refine gate_guard (by rfl) ?_; dsimp only)); refine box_event ?hg (N := 4) ?hd (cs := #[.int .i64 0, .string (⟨#[]⟩ : ByteArray), .int .i64 0, .int .i64 0, .int .i64 0]) (t := 27) ?hr ?_; (case hd => rfl); (case hg => rfl); (case hr => first | (go_simp; done) | (go_simp; rfl)); intro gb103 hg w13 hbox hb; have n0_ := Aside0.mk (below_step (by repeat (first | (with_reducible first | exact HB.out | apply below_alloc | apply pw_below_drewN | apply below_drew1) | exact HB.out)) hb); have n1_ := Aside0.mk (hbox); have n2_ := Aside0.mk ((by rw [hg]; exact (below_size (by repeat (first | (with_reducible first | exact HB.out | apply below_alloc | apply pw_below_drewN | apply below_drew1) | exact HB.out))) : w.heap.size ≤ gb103)); have n3_ := Aside0.mk ((by rw [hg]; exact (below_size (by repeat (first | (with_reducible first | exact HB.out | apply below_alloc | apply pw_below_drewN | apply below_drew1) | exact HB.out))) : w.heap.size ≤ gb103)); clear HB; have HB := n0_; have BK103 := n1_; have GW103 := n2_; have GE103 := n3_; clear n0_ n1_ n2_ n3_; clear hb hbox hg; have hcz14_0 : w13.cell? ⟨gb103, 0, none⟩ = some (.int .i64 0) := (blk_cell BK103.out 0).trans rfl; have hcz14_1 : w13.cell? ⟨gb103, 1, none⟩ = some (.string (⟨#[]⟩ : ByteArray)) := (blk_cell BK103.out 1).trans rfl; have hcz14_2 : w13.cell? ⟨gb103, 2, none⟩ = some (.int .i64 0) := (blk_cell BK103.out 2).trans rfl; have hcz14_3 : w13.cell? ⟨gb103, 3, none⟩ = some (.int .i64 0) := (blk_cell BK103.out 3).trans rfl; have hcz14_4 : w13.cell? ⟨gb103, 4, none⟩ = some (.int .i64 0) := (blk_cell BK103.out 4).trans rfl; have hfz14_0 := blk_frozen BK103.out 0; have hfz14_1 := blk_frozen BK103.out 1; have hfz14_2 := blk_frozen BK103.out 2; have hfz14_3 := blk_frozen BK103.out 3; have hfz14_4 := blk_frozen BK103.out 4)))
                    (try simp only [Act.put, List.setIfInBounds_toArray, List.set_cons_zero, List.set_cons_succ])
                    go_cut [28] (fun v28 wc => ∃ (kq : Nat) (x28_11 : Bool), v28 = .bool x28_11 ∧ Aside0 (layout_Check.j2 kq l0 x23_2 l0 (l0.length : Int) x23_2 x28_11 ((rd_T27 l0 x23_2).f0) ((rd_T27 l0 x23_2).f1) ((rd_T27 l0 x23_2).f2) ((rd_T27 l0 x23_2).f3) ((rd_T27 l0 x23_2).f4) = some r) ∧ Aside0 (kq ≤ k2) ∧ Aside0 (wc.heap[gb103]? = some (.cells #[.int .i64 ((rd_T27 l0 x23_2).f0), .string ((rd_T27 l0 x23_2).f1), .int .i64 ((rd_T27 l0 x23_2).f2), .int .i64 ((rd_T27 l0 x23_2).f3), .int .i64 ((rd_T27 l0 x23_2).f4)] 27 (0, 0))) ∧ Aside0 (Below w.heap.size w wc))
                    case first =>
                      have H := HC12.out
                      clear HC12
                      by_cases c15 : ((rd_T27 l0 x23_2).f3) < 1
                      · rw [if_pos c15] at H
                        have c15b0 : decide (((rd_T27 l0 x23_2).f3) < 1) = true := decide_eq_true c15
                        clear c15
                        (first | rw [c15b0] | (simp only [i64_w, i32_w]; rw [c15b0]) | skip)
                        have H' := Aside0.mk H
                        clear H
                        have hcz16_0 : w13.cell? ⟨gb103, 0, none⟩ = some (.int .i64 0) := (blk_cell BK103.out 0).trans rfl
                        have hcz16_1 : w13.cell? ⟨gb103, 1, none⟩ = some (.string (⟨#[]⟩ : ByteArray)) := (blk_cell BK103.out 1).trans rfl
                        have hcz16_2 : w13.cell? ⟨gb103, 2, none⟩ = some (.int .i64 0) := (blk_cell BK103.out 2).trans rfl
                        have hcz16_3 : w13.cell? ⟨gb103, 3, none⟩ = some (.int .i64 0) := (blk_cell BK103.out 3).trans rfl
                        have hcz16_4 : w13.cell? ⟨gb103, 4, none⟩ = some (.int .i64 0) := (blk_cell BK103.out 4).trans rfl
                        have hfz16_0 := blk_frozen BK103.out 0
                        have hfz16_1 := blk_frozen BK103.out 1
                        have hfz16_2 := blk_frozen BK103.out 2
                        have hfz16_3 := blk_frozen BK103.out 3
                        have hfz16_4 := blk_frozen BK103.out 4
                        go_wp2
                        repeat (go_quiet (fail); try go_wp2)
                        go_meet
                        case rel => exact ⟨_, (true), (by first | rfl | (simp; done) | (simp [*]; done)), H', ⟨by have := HJ2.out; have := HK2.out; first | omega | exact Nat.le_refl _⟩, ⟨by (with_reducible repeat (first | refine blk_drewN ?_ _ | refine blk_drew ?_ | refine blk_alloc ?_ _)); refine blk_put (cs := #[.int .i64 ((rd_T27 l0 x23_2).f0), .string ((rd_T27 l0 x23_2).f1), .int .i64 ((rd_T27 l0 x23_2).f2), .int .i64 ((rd_T27 l0 x23_2).f3), .int .i64 0]) ?_ 4 _ rfl; (with_reducible repeat (first | refine blk_drewN ?_ _ | refine blk_drew ?_ | refine blk_alloc ?_ _)); refine blk_put (cs := #[.int .i64 ((rd_T27 l0 x23_2).f0), .string ((rd_T27 l0 x23_2).f1), .int .i64 ((rd_T27 l0 x23_2).f2), .int .i64 0, .int .i64 0]) ?_ 3 _ rfl; (with_reducible repeat (first | refine blk_drewN ?_ _ | refine blk_drew ?_ | refine blk_alloc ?_ _)); refine blk_put (cs := #[.int .i64 ((rd_T27 l0 x23_2).f0), .string ((rd_T27 l0 x23_2).f1), .int .i64 0, .int .i64 0, .int .i64 0]) ?_ 2 _ rfl; (with_reducible repeat (first | refine blk_drewN ?_ _ | refine blk_drew ?_ | refine blk_alloc ?_ _)); refine blk_put (cs := #[.int .i64 ((rd_T27 l0 x23_2).f0), .string (⟨#[]⟩ : ByteArray), .int .i64 0, .int .i64 0, .int .i64 0]) ?_ 1 _ rfl; (with_reducible repeat (first | refine blk_drewN ?_ _ | refine blk_drew ?_ | refine blk_alloc ?_ _)); refine blk_put (cs := #[.int .i64 0, .string (⟨#[]⟩ : ByteArray), .int .i64 0, .int .i64 0, .int .i64 0]) ?_ 0 _ rfl; (with_reducible repeat (first | refine blk_drewN ?_ _ | refine blk_drew ?_ | refine blk_alloc ?_ _)); exact BK103.out⟩, ⟨by repeat (first | (with_reducible first | exact HB.out | apply below_alloc | apply pw_below_drewN | apply below_drew1 | refine below_set ?_ GE103.out) | exact HB.out)⟩⟩
                      · rw [if_neg c15] at H
                        have c15b0 : decide (((rd_T27 l0 x23_2).f3) < 1) = false := decide_eq_false c15
                        clear c15
                        (first | rw [c15b0] | (simp only [i64_w, i32_w]; rw [c15b0]) | skip)
                        have H' := Aside0.mk H
                        clear H
                        have hcz17_0 : w13.cell? ⟨gb103, 0, none⟩ = some (.int .i64 0) := (blk_cell BK103.out 0).trans rfl
                        have hcz17_1 : w13.cell? ⟨gb103, 1, none⟩ = some (.string (⟨#[]⟩ : ByteArray)) := (blk_cell BK103.out 1).trans rfl
                        have hcz17_2 : w13.cell? ⟨gb103, 2, none⟩ = some (.int .i64 0) := (blk_cell BK103.out 2).trans rfl
                        have hcz17_3 : w13.cell? ⟨gb103, 3, none⟩ = some (.int .i64 0) := (blk_cell BK103.out 3).trans rfl
                        have hcz17_4 : w13.cell? ⟨gb103, 4, none⟩ = some (.int .i64 0) := (blk_cell BK103.out 4).trans rfl
                        have hfz17_0 := blk_frozen BK103.out 0
                        have hfz17_1 := blk_frozen BK103.out 1
                        have hfz17_2 := blk_frozen BK103.out 2
                        have hfz17_3 := blk_frozen BK103.out 3
                        have hfz17_4 := blk_frozen BK103.out 4
                        go_wp2
                        repeat (go_quiet (fail); try go_wp2)
                        go_meet
                        case rel => exact ⟨_, (decide (((rd_T27 l0 x23_2).f4) < 1)), (by first | rfl | (simp; done) | (simp [*]; done)), H', ⟨by have := HJ2.out; have := HK2.out; first | omega | exact Nat.le_refl _⟩, ⟨by (with_reducible repeat (first | refine blk_drewN ?_ _ | refine blk_drew ?_ | refine blk_alloc ?_ _)); refine blk_put (cs := #[.int .i64 ((rd_T27 l0 x23_2).f0), .string ((rd_T27 l0 x23_2).f1), .int .i64 ((rd_T27 l0 x23_2).f2), .int .i64 ((rd_T27 l0 x23_2).f3), .int .i64 0]) ?_ 4 _ rfl; (with_reducible repeat (first | refine blk_drewN ?_ _ | refine blk_drew ?_ | refine blk_alloc ?_ _)); refine blk_put (cs := #[.int .i64 ((rd_T27 l0 x23_2).f0), .string ((rd_T27 l0 x23_2).f1), .int .i64 ((rd_T27 l0 x23_2).f2), .int .i64 0, .int .i64 0]) ?_ 3 _ rfl; (with_reducible repeat (first | refine blk_drewN ?_ _ | refine blk_drew ?_ | refine blk_alloc ?_ _)); refine blk_put (cs := #[.int .i64 ((rd_T27 l0 x23_2).f0), .string ((rd_T27 l0 x23_2).f1), .int .i64 0, .int .i64 0, .int .i64 0]) ?_ 2 _ rfl; (with_reducible repeat (first | refine blk_drewN ?_ _ | refine blk_drew ?_ | refine blk_alloc ?_ _)); refine blk_put (cs := #[.int .i64 ((rd_T27 l0 x23_2).f0), .string (⟨#[]⟩ : ByteArray), .int .i64 0, .int .i64 0, .int .i64 0]) ?_ 1 _ rfl; (with_reducible repeat (first | refine blk_drewN ?_ _ | refine blk_drew ?_ | refine blk_alloc ?_ _)); refine blk_put (cs := #[.int .i64 0, .string (⟨#[]⟩ : ByteArray), .int .i64 0, .int .i64 0, .int .i64 0]) ?_ 0 _ rfl; (with_reducible repeat (first | refine blk_drewN ?_ _ | refine blk_drew ?_ | refine blk_alloc ?_ _)); exact BK103.out⟩, ⟨by repeat (first | (with_reducible first | exact HB.out | apply below_alloc | apply pw_below_drewN | apply below_drew1 | refine below_set ?_ GE103.out) | exact HB.out)⟩⟩
                    case rest =>
                      clear HC12
                      try clear c1
                      try clear p1
                      try clear q1
                      try clear hx1
                      try clear c2
                      try clear c2b0
                      try clear c2b1
                      try clear p2
                      try clear c4
                      try clear c4b0
                      try clear c4b1
                      try clear c4b2
                      try clear c6
                      try clear c6b0
                      try clear p6
                      try clear c7
                      try clear c7b0
                      try clear c8
                      try clear c9
                      try clear c9b0
                      try clear c10
                      try clear c10b0
                      try clear p10
                      try clear q10
                      try clear hx10
                      try clear c11
                      try clear c11b0
                      try clear c15
                      try clear c15b0
                      try clear hcz14_0
                      try clear hcz14_1
                      try clear hcz14_2
                      try clear hcz14_3
                      try clear hcz14_4
                      try clear hcz16_0
                      try clear hcz16_1
                      try clear hcz16_2
                      try clear hcz16_3
                      try clear hcz16_4
                      try clear hcz17_0
                      try clear hcz17_1
                      try clear hcz17_2
                      try clear hcz17_3
                      try clear hcz17_4
                      try clear hfz14_0
                      try clear hfz14_1
                      try clear hfz14_2
                      try clear hfz14_3
                      try clear hfz14_4
                      try clear hfz16_0
                      try clear hfz16_1
                      try clear hfz16_2
                      try clear hfz16_3
                      try clear hfz16_4
                      try clear hfz17_0
                      try clear hfz17_1
                      try clear hfz17_2
                      try clear hfz17_3
                      try clear hfz17_4
                      try clear hx101_0
                      try clear hx101_1
                      try clear hx101_2
                      try clear hx101_3
                      try clear hx101_4
                      try clear hx102_0
                      try clear hx102_1
                      try clear hx102_2
                      try clear hx102_3
                      try clear hx102_4
                      try clear p1
                      try clear p101
                      try clear p102
                      try clear p2
                      try clear p6
                      try clear q1
                      try clear q101
                      try clear q102
                      obtain ⟨kq, x28_11, rfl, HA, HJ11, BK103, HB⟩ := hcut
                      cases kq with
                      | zero => exact absurd HA.out (by simp [layout_Check.j2])
                      | succ kj11 =>
                        have H := HA.out
                        clear HA
                        simp only [layout_Check.j2] at H
                        by_cases c18 : x28_11 = true
                        · subst c18
                          have H1 : (some 4) = some r := by rw [if_pos rfl] at H; exact H
                          clear H
                          have H := H1
                          clear H1
                          obtain rfl := Option.some.inj H
                          go_wp2
                          repeat (go_quiet (fail); try go_wp2)
                          go_ret
                          exact ⟨by first | rfl | (simp [errW_none, errW_some] <;> rfl) | (simp [*, errW_none, errW_some] <;> rfl), by repeat (first | (with_reducible first | exact HB.out | apply below_alloc | apply pw_below_drewN | apply below_drew1 | refine below_set ?_ GE103.out) | exact HB.out)⟩
                        · replace c18 := Bool.eq_false_iff.mpr c18
                          subst c18
                          have H1 : (if ((rd_T27 l0 x23_2).f0) < 0 then (layout_Check.j3 kj11 l0 x23_2 l0 (l0.length : Int) x23_2 true ((rd_T27 l0 x23_2).f0) ((rd_T27 l0 x23_2).f1) ((rd_T27 l0 x23_2).f2) ((rd_T27 l0 x23_2).f3) ((rd_T27 l0 x23_2).f4)) else (if ((rd_T27 l0 x23_2).f0) > 9 then (layout_Check.j3 kj11 l0 x23_2 l0 (l0.length : Int) x23_2 true ((rd_T27 l0 x23_2).f0) ((rd_T27 l0 x23_2).f1) ((rd_T27 l0 x23_2).f2) ((rd_T27 l0 x23_2).f3) ((rd_T27 l0 x23_2).f4)) else (if ((rd_T27 l0 x23_2).f0) ≥ 6 then (if ((rd_T27 l0 x23_2).f0) ≤ 8 then (layout_Check.j3 kj11 l0 x23_2 l0 (l0.length : Int) x23_2 true ((rd_T27 l0 x23_2).f0) ((rd_T27 l0 x23_2).f1) ((rd_T27 l0 x23_2).f2) ((rd_T27 l0 x23_2).f3) ((rd_T27 l0 x23_2).f4)) else (layout_Check.j3 kj11 l0 x23_2 l0 (l0.length : Int) x23_2 ((((rd_T27 l0 x23_2).f0) == 9) != (x23_2 == (wrap64 ((l0.length : Int) - 1)))) ((rd_T27 l0 x23_2).f0) ((rd_T27 l0 x23_2).f1) ((rd_T27 l0 x23_2).f2) ((rd_T27 l0 x23_2).f3) ((rd_T27 l0 x23_2).f4))) else (layout_Check.j3 kj11 l0 x23_2 l0 (l0.length : Int) x23_2 ((((rd_T27 l0 x23_2).f0) == 9) != (x23_2 == (wrap64 ((l0.length : Int) - 1)))) ((rd_T27 l0 x23_2).f0) ((rd_T27 l0 x23_2).f1) ((rd_T27 l0 x23_2).f2) ((rd_T27 l0 x23_2).f3) ((rd_T27 l0 x23_2).f4))))) = some r := by rw [if_neg (show ¬ (false = true) by decide)] at H; exact H
                          clear H
                          have H := H1
                          clear H1
                          have HC19 := Aside0.mk H
                          clear H
                          go_upto_region 10 with (fail)
                          repeat (go_quiet (fail); go_upto_region 10 with (fail))
                          go_cut [37] (fun v37 wc => ∃ (kq : Nat) (x37_18 : Bool), v37 = .bool x37_18 ∧ Aside0 (layout_Check.j3 kq l0 x23_2 l0 (l0.length : Int) x23_2 x37_18 ((rd_T27 l0 x23_2).f0) ((rd_T27 l0 x23_2).f1) ((rd_T27 l0 x23_2).f2) ((rd_T27 l0 x23_2).f3) ((rd_T27 l0 x23_2).f4) = some r) ∧ Aside0 (kq ≤ kj11) ∧ Aside0 (wc.heap[gb103]? = some (.cells #[.int .i64 ((rd_T27 l0 x23_2).f0), .string ((rd_T27 l0 x23_2).f1), .int .i64 ((rd_T27 l0 x23_2).f2), .int .i64 ((rd_T27 l0 x23_2).f3), .int .i64 ((rd_T27 l0 x23_2).f4)] 27 (0, 0))) ∧ Aside0 (Below w.heap.size w wc))
                          case first =>
                            have H := HC19.out
                            clear HC19
                            by_cases c20 : ((rd_T27 l0 x23_2).f0) < 0
                            · rw [if_pos c20] at H
                              have c20b0 : decide (((rd_T27 l0 x23_2).f0) < 0) = true := decide_eq_true c20
                              clear c20
                              (first | rw [c20b0] | (simp only [i64_w, i32_w]; rw [c20b0]) | skip)
                              have H' := Aside0.mk H
                              clear H
                              have hcz21_0 : wc.cell? ⟨gb103, 0, none⟩ = some (.int .i64 ((rd_T27 l0 x23_2).f0)) := (blk_cell BK103.out 0).trans rfl
                              have hcz21_1 : wc.cell? ⟨gb103, 1, none⟩ = some (.string ((rd_T27 l0 x23_2).f1)) := (blk_cell BK103.out 1).trans rfl
                              have hcz21_2 : wc.cell? ⟨gb103, 2, none⟩ = some (.int .i64 ((rd_T27 l0 x23_2).f2)) := (blk_cell BK103.out 2).trans rfl
                              have hcz21_3 : wc.cell? ⟨gb103, 3, none⟩ = some (.int .i64 ((rd_T27 l0 x23_2).f3)) := (blk_cell BK103.out 3).trans rfl
                              have hcz21_4 : wc.cell? ⟨gb103, 4, none⟩ = some (.int .i64 ((rd_T27 l0 x23_2).f4)) := (blk_cell BK103.out 4).trans rfl
                              have hfz21_0 := blk_frozen BK103.out 0
                              have hfz21_1 := blk_frozen BK103.out 1
                              have hfz21_2 := blk_frozen BK103.out 2
                              have hfz21_3 := blk_frozen BK103.out 3
                              have hfz21_4 := blk_frozen BK103.out 4
                              go_wp2
                              repeat (go_quiet (fail); try go_wp2)
                              go_meet
                              case rel => exact ⟨_, (true), (by first | rfl | (simp; done) | (simp [*]; done)), H', ⟨by have := HJ2.out; have := HK2.out; have := HJ11.out; first | omega | exact Nat.le_refl _⟩, ⟨by (with_reducible repeat (first | refine blk_drewN ?_ _ | refine blk_drew ?_ | refine blk_alloc ?_ _)); exact BK103.out⟩, ⟨by repeat (first | (with_reducible first | exact HB.out | apply below_alloc | apply pw_below_drewN | apply below_drew1 | refine below_set ?_ GE103.out) | exact HB.out)⟩⟩
                            · rw [if_neg c20] at H
                              have c20b0 : decide (((rd_T27 l0 x23_2).f0) < 0) = false := decide_eq_false c20
                              clear c20
                              (first | rw [c20b0] | (simp only [i64_w, i32_w]; rw [c20b0]) | skip)
                              by_cases c22 : ((rd_T27 l0 x23_2).f0) > 9
                              · rw [if_pos c22] at H
                                have c22b0 : decide (9 < ((rd_T27 l0 x23_2).f0)) = true := decide_eq_true c22
                                clear c22
                                have H' := Aside0.mk H
                                clear H
                                have hcz23_0 : wc.cell? ⟨gb103, 0, none⟩ = some (.int .i64 ((rd_T27 l0 x23_2).f0)) := (blk_cell BK103.out 0).trans rfl
                                have hcz23_1 : wc.cell? ⟨gb103, 1, none⟩ = some (.string ((rd_T27 l0 x23_2).f1)) := (blk_cell BK103.out 1).trans rfl
                                have hcz23_2 : wc.cell? ⟨gb103, 2, none⟩ = some (.int .i64 ((rd_T27 l0 x23_2).f2)) := (blk_cell BK103.out 2).trans rfl
                                have hcz23_3 : wc.cell? ⟨gb103, 3, none⟩ = some (.int .i64 ((rd_T27 l0 x23_2).f3)) := (blk_cell BK103.out 3).trans rfl
                                have hcz23_4 : wc.cell? ⟨gb103, 4, none⟩ = some (.int .i64 ((rd_T27 l0 x23_2).f4)) := (blk_cell BK103.out 4).trans rfl
                                have hfz23_0 := blk_frozen BK103.out 0
                                have hfz23_1 := blk_frozen BK103.out 1
                                have hfz23_2 := blk_frozen BK103.out 2
                                have hfz23_3 := blk_frozen BK103.out 3
                                have hfz23_4 := blk_frozen BK103.out 4
                                go_wp2
                                repeat (go_quiet (fail); try go_wp2)
                                go_meet
                                case rel => exact ⟨_, (true), (by first | rfl | (simp; done) | (simp [*]; done)), H', ⟨by have := HJ2.out; have := HK2.out; have := HJ11.out; first | omega | exact Nat.le_refl _⟩, ⟨by (with_reducible repeat (first | refine blk_drewN ?_ _ | refine blk_drew ?_ | refine blk_alloc ?_ _)); exact BK103.out⟩, ⟨by repeat (first | (with_reducible first | exact HB.out | apply below_alloc | apply pw_below_drewN | apply below_drew1 | refine below_set ?_ GE103.out) | exact HB.out)⟩⟩
                              · rw [if_neg c22] at H
                                have c22b0 : decide (9 < ((rd_T27 l0 x23_2).f0)) = false := decide_eq_false c22
                                clear c22
                                by_cases c24 : ((rd_T27 l0 x23_2).f0) ≥ 6
                                · rw [if_pos c24] at H
                                  have c24b0 : decide (6 ≤ ((rd_T27 l0 x23_2).f0)) = true := decide_eq_true c24
                                  clear c24
                                  by_cases c25 : ((rd_T27 l0 x23_2).f0) ≤ 8
                                  · rw [if_pos c25] at H
                                    have c25b0 : decide (((rd_T27 l0 x23_2).f0) ≤ 8) = true := decide_eq_true c25
                                    clear c25
                                    have H' := Aside0.mk H
                                    clear H
                                    have hcz26_0 : wc.cell? ⟨gb103, 0, none⟩ = some (.int .i64 ((rd_T27 l0 x23_2).f0)) := (blk_cell BK103.out 0).trans rfl
                                    have hcz26_1 : wc.cell? ⟨gb103, 1, none⟩ = some (.string ((rd_T27 l0 x23_2).f1)) := (blk_cell BK103.out 1).trans rfl
                                    have hcz26_2 : wc.cell? ⟨gb103, 2, none⟩ = some (.int .i64 ((rd_T27 l0 x23_2).f2)) := (blk_cell BK103.out 2).trans rfl
                                    have hcz26_3 : wc.cell? ⟨gb103, 3, none⟩ = some (.int .i64 ((rd_T27 l0 x23_2).f3)) := (blk_cell BK103.out 3).trans rfl
                                    have hcz26_4 : wc.cell? ⟨gb103, 4, none⟩ = some (.int .i64 ((rd_T27 l0 x23_2).f4)) := (blk_cell BK103.out 4).trans rfl
                                    have hfz26_0 := blk_frozen BK103.out 0
                                    have hfz26_1 := blk_frozen BK103.out 1
                                    have hfz26_2 := blk_frozen BK103.out 2
                                    have hfz26_3 := blk_frozen BK103.out 3
                                    have hfz26_4 := blk_frozen BK103.out 4
                                    go_wp2
                                    repeat (go_quiet (fail); try go_wp2)
                                    go_meet
                                    case rel => exact ⟨_, (true), (by first | rfl | (simp; done) | (simp [*]; done)), H', ⟨by have := HJ2.out; have := HK2.out; have := HJ11.out; first | omega | exact Nat.le_refl _⟩, ⟨by (with_reducible repeat (first | refine blk_drewN ?_ _ | refine blk_drew ?_ | refine blk_alloc ?_ _)); exact BK103.out⟩, ⟨by repeat (first | (with_reducible first | exact HB.out | apply below_alloc | apply pw_below_drewN | apply below_drew1 | refine below_set ?_ GE103.out) | exact HB.out)⟩⟩
                                  · rw [if_neg c25] at H
                                    have c25b0 : decide (((rd_T27 l0 x23_2).f0) ≤ 8) = false := decide_eq_false c25
                                    clear c25
                                    have H' := Aside0.mk H
                                    clear H
                                    have hcz27_0 : wc.cell? ⟨gb103, 0, none⟩ = some (.int .i64 ((rd_T27 l0 x23_2).f0)) := (blk_cell BK103.out 0).trans rfl
                                    have hcz27_1 : wc.cell? ⟨gb103, 1, none⟩ = some (.string ((rd_T27 l0 x23_2).f1)) := (blk_cell BK103.out 1).trans rfl
                                    have hcz27_2 : wc.cell? ⟨gb103, 2, none⟩ = some (.int .i64 ((rd_T27 l0 x23_2).f2)) := (blk_cell BK103.out 2).trans rfl
                                    have hcz27_3 : wc.cell? ⟨gb103, 3, none⟩ = some (.int .i64 ((rd_T27 l0 x23_2).f3)) := (blk_cell BK103.out 3).trans rfl
                                    have hcz27_4 : wc.cell? ⟨gb103, 4, none⟩ = some (.int .i64 ((rd_T27 l0 x23_2).f4)) := (blk_cell BK103.out 4).trans rfl
                                    have hfz27_0 := blk_frozen BK103.out 0
                                    have hfz27_1 := blk_frozen BK103.out 1
                                    have hfz27_2 := blk_frozen BK103.out 2
                                    have hfz27_3 := blk_frozen BK103.out 3
                                    have hfz27_4 := blk_frozen BK103.out 4
                                    go_wp2
                                    repeat (go_quiet (fail); try go_wp2)
                                    go_meet
                                    case rel => exact ⟨_, (((((rd_T27 l0 x23_2).f0) == 9) != (x23_2 == (wrap64 ((l0.length : Int) - 1))))), (by first | rfl | (simp; done) | (simp [*]; done)), H', ⟨by have := HJ2.out; have := HK2.out; have := HJ11.out; first | omega | exact Nat.le_refl _⟩, ⟨by (with_reducible repeat (first | refine blk_drewN ?_ _ | refine blk_drew ?_ | refine blk_alloc ?_ _)); exact BK103.out⟩, ⟨by repeat (first | (with_reducible first | exact HB.out | apply below_alloc | apply pw_below_drewN | apply below_drew1 | refine below_set ?_ GE103.out) | exact HB.out)⟩⟩
                                · rw [if_neg c24] at H
                                  have c24b0 : decide (6 ≤ ((rd_T27 l0 x23_2).f0)) = false := decide_eq_false c24
                                  clear c24
                                  have H' := Aside0.mk H
                                  clear H
                                  have hcz28_0 : wc.cell? ⟨gb103, 0, none⟩ = some (.int .i64 ((rd_T27 l0 x23_2).f0)) := (blk_cell BK103.out 0).trans rfl
                                  have hcz28_1 : wc.cell? ⟨gb103, 1, none⟩ = some (.string ((rd_T27 l0 x23_2).f1)) := (blk_cell BK103.out 1).trans rfl
                                  have hcz28_2 : wc.cell? ⟨gb103, 2, none⟩ = some (.int .i64 ((rd_T27 l0 x23_2).f2)) := (blk_cell BK103.out 2).trans rfl
                                  have hcz28_3 : wc.cell? ⟨gb103, 3, none⟩ = some (.int .i64 ((rd_T27 l0 x23_2).f3)) := (blk_cell BK103.out 3).trans rfl
                                  have hcz28_4 : wc.cell? ⟨gb103, 4, none⟩ = some (.int .i64 ((rd_T27 l0 x23_2).f4)) := (blk_cell BK103.out 4).trans rfl
                                  have hfz28_0 := blk_frozen BK103.out 0
                                  have hfz28_1 := blk_frozen BK103.out 1
                                  have hfz28_2 := blk_frozen BK103.out 2
                                  have hfz28_3 := blk_frozen BK103.out 3
                                  have hfz28_4 := blk_frozen BK103.out 4
                                  go_wp2
                                  repeat (go_quiet (fail); try go_wp2)
                                  go_meet
                                  case rel => exact ⟨_, (((((rd_T27 l0 x23_2).f0) == 9) != (x23_2 == (wrap64 ((l0.length : Int) - 1))))), (by first | rfl | (simp; done) | (simp [*]; done)), H', ⟨by have := HJ2.out; have := HK2.out; have := HJ11.out; first | omega | exact Nat.le_refl _⟩, ⟨by (with_reducible repeat (first | refine blk_drewN ?_ _ | refine blk_drew ?_ | refine blk_alloc ?_ _)); exact BK103.out⟩, ⟨by repeat (first | (with_reducible first | exact HB.out | apply below_alloc | apply pw_below_drewN | apply below_drew1 | refine below_set ?_ GE103.out) | exact HB.out)⟩⟩
                          case rest =>
                            clear HC19
                            try clear c1
                            try clear p1
                            try clear q1
                            try clear hx1
                            try clear c2
                            try clear c2b0
                            try clear c2b1
                            try clear p2
                            try clear c4
                            try clear c4b0
                            try clear c4b1
                            try clear c4b2
                            try clear c6
                            try clear c6b0
                            try clear p6
                            try clear c7
                            try clear c7b0
                            try clear c8
                            try clear c9
                            try clear c9b0
                            try clear c10
                            try clear c10b0
                            try clear p10
                            try clear q10
                            try clear hx10
                            try clear c11
                            try clear c11b0
                            try clear c15
                            try clear c15b0
                            try clear c18
                            try clear c20
                            try clear c20b0
                            try clear c22
                            try clear c22b0
                            try clear c24
                            try clear c24b0
                            try clear c25
                            try clear c25b0
                            try clear hcz14_0
                            try clear hcz14_1
                            try clear hcz14_2
                            try clear hcz14_3
                            try clear hcz14_4
                            try clear hcz16_0
                            try clear hcz16_1
                            try clear hcz16_2
                            try clear hcz16_3
                            try clear hcz16_4
                            try clear hcz17_0
                            try clear hcz17_1
                            try clear hcz17_2
                            try clear hcz17_3
                            try clear hcz17_4
                            try clear hcz21_0
                            try clear hcz21_1
                            try clear hcz21_2
                            try clear hcz21_3
                            try clear hcz21_4
                            try clear hcz23_0
                            try clear hcz23_1
                            try clear hcz23_2
                            try clear hcz23_3
                            try clear hcz23_4
                            try clear hcz26_0
                            try clear hcz26_1
                            try clear hcz26_2
                            try clear hcz26_3
                            try clear hcz26_4
                            try clear hcz27_0
                            try clear hcz27_1
                            try clear hcz27_2
                            try clear hcz27_3
                            try clear hcz27_4
                            try clear hcz28_0
                            try clear hcz28_1
                            try clear hcz28_2
                            try clear hcz28_3
                            try clear hcz28_4
                            try clear hfz14_0
                            try clear hfz14_1
                            try clear hfz14_2
                            try clear hfz14_3
                            try clear hfz14_4
                            try clear hfz16_0
                            try clear hfz16_1
                            try clear hfz16_2
                            try clear hfz16_3
                            try clear hfz16_4
                            try clear hfz17_0
                            try clear hfz17_1
                            try clear hfz17_2
                            try clear hfz17_3
                            try clear hfz17_4
                            try clear hfz21_0
                            try clear hfz21_1
                            try clear hfz21_2
                            try clear hfz21_3
                            try clear hfz21_4
                            try clear hfz23_0
                            try clear hfz23_1
                            try clear hfz23_2
                            try clear hfz23_3
                            try clear hfz23_4
                            try clear hfz26_0
                            try clear hfz26_1
                            try clear hfz26_2
                            try clear hfz26_3
                            try clear hfz26_4
                            try clear hfz27_0
                            try clear hfz27_1
                            try clear hfz27_2
                            try clear hfz27_3
                            try clear hfz27_4
                            try clear hfz28_0
                            try clear hfz28_1
                            try clear hfz28_2
                            try clear hfz28_3
                            try clear hfz28_4
                            try clear hx101_0
                            try clear hx101_1
                            try clear hx101_2
                            try clear hx101_3
                            try clear hx101_4
                            try clear hx102_0
                            try clear hx102_1
                            try clear hx102_2
                            try clear hx102_3
                            try clear hx102_4
                            try clear p1
                            try clear p10
                            try clear p101
                            try clear p102
                            try clear p2
                            try clear p6
                            try clear q1
                            try clear q10
                            try clear q101
                            try clear q102
                            obtain ⟨kq, x37_18, rfl, HA, HJ18, BK103, HB⟩ := hcut
                            cases kq with
                            | zero => exact absurd HA.out (by simp [layout_Check.j3])
                            | succ kj18 =>
                              have H := HA.out
                              clear HA
                              simp only [layout_Check.j3] at H
                              by_cases c29 : x37_18 = true
                              · subst c29
                                have H1 : (some 3) = some r := by rw [if_pos rfl] at H; exact H
                                clear H
                                have H := H1
                                clear H1
                                obtain rfl := Option.some.inj H
                                go_wp2
                                repeat (go_quiet (fail); try go_wp2)
                                go_ret
                                exact ⟨by first | rfl | (simp [errW_none, errW_some] <;> rfl) | (simp [*, errW_none, errW_some] <;> rfl), by repeat (first | (with_reducible first | exact HB.out | apply below_alloc | apply pw_below_drewN | apply below_drew1 | refine below_set ?_ GE103.out) | exact HB.out)⟩
                              · replace c29 := Bool.eq_false_iff.mpr c29
                                subst c29
                                have H1 : (if x23_2 > 0 then (if 0 ≤ (wrap64 (x23_2 - 1)) then (if (wrap64 (x23_2 - 1)) < (l0.length : Int) then (if ((rd_T27 l0 x23_2).f3) < ((rd_T27 l0 (wrap64 (x23_2 - 1))).f3) then (some 3) else (if ((rd_T27 l0 x23_2).f3) = ((rd_T27 l0 (wrap64 (x23_2 - 1))).f3) then (if ((rd_T27 l0 x23_2).f4) < ((rd_T27 l0 (wrap64 (x23_2 - 1))).f4) then (some 3) else (layout_Check.l0 kj18 l0 l0 (l0.length : Int) (wrap64 (x23_2 + 1)))) else (layout_Check.l0 kj18 l0 l0 (l0.length : Int) (wrap64 (x23_2 + 1))))) else (none)) else (none)) else (layout_Check.l0 kj18 l0 l0 (l0.length : Int) (wrap64 (x23_2 + 1)))) = some r := by rw [if_neg (show ¬ (false = true) by decide)] at H; exact H
                                clear H
                                have H := H1
                                clear H1
                                by_cases c30 : x23_2 > 0
                                · rw [if_pos c30] at H
                                  have c30b0 : decide (0 < x23_2) = true := decide_eq_true c30
                                  clear c30
                                  obtain ⟨ji31, hji31⟩ : ∃ j_ : Int, (wrap64 (x23_2 - 1)) = j_ := ⟨_, rfl⟩
                                  replace H : (if 0 ≤ (ji31) then (if (ji31) < (l0.length : Int) then (if ((rd_T27 l0 x23_2).f3) < ((rd_T27 l0 (ji31)).f3) then (some 3) else (if ((rd_T27 l0 x23_2).f3) = ((rd_T27 l0 (ji31)).f3) then (if ((rd_T27 l0 x23_2).f4) < ((rd_T27 l0 (ji31)).f4) then (some 3) else (layout_Check.l0 kj18 l0 l0 (l0.length : Int) (wrap64 (x23_2 + 1)))) else (layout_Check.l0 kj18 l0 l0 (l0.length : Int) (wrap64 (x23_2 + 1))))) else (none)) else (none)) = some r := by first | (rw [hji31] at H; exact H) | (simp only [hji31] at H ⊢; exact H)
                                  have hji31w : (IntKind.i64.wrap (x23_2 - 1)) = ji31 := (i64_w _).trans hji31
                                  by_cases c32 : 0 ≤ (ji31)
                                  · rw [if_pos c32] at H
                                    have c32b0 : decide (0 ≤ (ji31)) = true := decide_eq_true c32
                                    clear c32
                                    by_cases c33 : (ji31) < (l0.length : Int)
                                    · rw [if_pos c33] at H
                                      have c33b0 : decide ((ji31) < (l0.length : Int)) = true := decide_eq_true c33
                                      clear c33
                                      by_cases c34 : ((rd_T27 l0 x23_2).f3) < ((rd_T27 l0 (ji31)).f3)
                                      · rw [if_pos c34] at H
                                        have c34b0 : decide (((rd_T27 l0 x23_2).f3) < ((rd_T27 l0 (ji31)).f3)) = true := decide_eq_true c34
                                        clear c34
                                        obtain rfl := Option.some.inj H
                                        have hcz35_0 : wc.cell? ⟨gb103, 0, none⟩ = some (.int .i64 ((rd_T27 l0 x23_2).f0)) := (blk_cell BK103.out 0).trans rfl
                                        have hcz35_1 : wc.cell? ⟨gb103, 1, none⟩ = some (.string ((rd_T27 l0 x23_2).f1)) := (blk_cell BK103.out 1).trans rfl
                                        have hcz35_2 : wc.cell? ⟨gb103, 2, none⟩ = some (.int .i64 ((rd_T27 l0 x23_2).f2)) := (blk_cell BK103.out 2).trans rfl
                                        have hcz35_3 : wc.cell? ⟨gb103, 3, none⟩ = some (.int .i64 ((rd_T27 l0 x23_2).f3)) := (blk_cell BK103.out 3).trans rfl
                                        have hcz35_4 : wc.cell? ⟨gb103, 4, none⟩ = some (.int .i64 ((rd_T27 l0 x23_2).f4)) := (blk_cell BK103.out 4).trans rfl
                                        have hfz35_0 := blk_frozen BK103.out 0
                                        have hfz35_1 := blk_frozen BK103.out 1
                                        have hfz35_2 := blk_frozen BK103.out 2
                                        have hfz35_3 := blk_frozen BK103.out 3
                                        have hfz35_4 := blk_frozen BK103.out 4
                                        have p104 : 0 ≤ ((ji31) : Int) := of_decide_eq_true (by first | (with_reducible assumption) | assumption)
                                        have q104 : (ji31) < (l0.length : Int) := of_decide_eq_true (by first | (with_reducible assumption) | assumption)
                                        obtain ⟨ad104, e104, hx104_0, hx104_1, hx104_2, hx104_3, hx104_4⟩ := at_T27 HR0.out (ji31) p104 q104
                                        obtain rfl : ad102 = ad104 := (by injection e104)
                                        replace hx104_0 := (HB.out.cell (World.block_lt_of_cell? w _ hx104_0)).trans hx104_0
                                        replace hx104_1 := (HB.out.cell (World.block_lt_of_cell? w _ hx104_1)).trans hx104_1
                                        replace hx104_2 := (HB.out.cell (World.block_lt_of_cell? w _ hx104_2)).trans hx104_2
                                        replace hx104_3 := (HB.out.cell (World.block_lt_of_cell? w _ hx104_3)).trans hx104_3
                                        replace hx104_4 := (HB.out.cell (World.block_lt_of_cell? w _ hx104_4)).trans hx104_4
                                        replace p104 := eq_true p104
                                        replace q104 := eq_true q104
                                        go_wp2
                                        repeat (go_quiet (fail); try go_wp2)
                                        go_ret
                                        exact ⟨by first | rfl | (simp [errW_none, errW_some] <;> rfl) | (simp only [← hji31]; first | rfl | (simp [errW_none, errW_some] <;> rfl)) | (simp [*, errW_none, errW_some] <;> rfl), by repeat (first | (with_reducible first | exact HB.out | apply below_alloc | apply pw_below_drewN | apply below_drew1 | refine below_set ?_ GE103.out) | exact HB.out)⟩
                                      · rw [if_neg c34] at H
                                        have c34b0 : decide (((rd_T27 l0 x23_2).f3) < ((rd_T27 l0 (ji31)).f3)) = false := decide_eq_false c34
                                        clear c34
                                        by_cases c36 : ((rd_T27 l0 x23_2).f3) = ((rd_T27 l0 (ji31)).f3)
                                        · rw [if_pos c36] at H
                                          have c36b0 : (((rd_T27 l0 x23_2).f3) == ((rd_T27 l0 (ji31)).f3)) = true := beq_iff_eq.mpr c36
                                          have c36b1 : (((rd_T27 l0 x23_2).f3) != ((rd_T27 l0 (ji31)).f3)) = false := bne_eq_false_iff_eq.mpr c36
                                          clear c36
                                          by_cases c37 : ((rd_T27 l0 x23_2).f4) < ((rd_T27 l0 (ji31)).f4)
                                          · rw [if_pos c37] at H
                                            have c37b0 : decide (((rd_T27 l0 x23_2).f4) < ((rd_T27 l0 (ji31)).f4)) = true := decide_eq_true c37
                                            clear c37
                                            obtain rfl := Option.some.inj H
                                            have hcz38_0 : wc.cell? ⟨gb103, 0, none⟩ = some (.int .i64 ((rd_T27 l0 x23_2).f0)) := (blk_cell BK103.out 0).trans rfl
                                            have hcz38_1 : wc.cell? ⟨gb103, 1, none⟩ = some (.string ((rd_T27 l0 x23_2).f1)) := (blk_cell BK103.out 1).trans rfl
                                            have hcz38_2 : wc.cell? ⟨gb103, 2, none⟩ = some (.int .i64 ((rd_T27 l0 x23_2).f2)) := (blk_cell BK103.out 2).trans rfl
                                            have hcz38_3 : wc.cell? ⟨gb103, 3, none⟩ = some (.int .i64 ((rd_T27 l0 x23_2).f3)) := (blk_cell BK103.out 3).trans rfl
                                            have hcz38_4 : wc.cell? ⟨gb103, 4, none⟩ = some (.int .i64 ((rd_T27 l0 x23_2).f4)) := (blk_cell BK103.out 4).trans rfl
                                            have hfz38_0 := blk_frozen BK103.out 0
                                            have hfz38_1 := blk_frozen BK103.out 1
                                            have hfz38_2 := blk_frozen BK103.out 2
                                            have hfz38_3 := blk_frozen BK103.out 3
                                            have hfz38_4 := blk_frozen BK103.out 4
                                            have p104 : 0 ≤ ((ji31) : Int) := of_decide_eq_true (by first | (with_reducible assumption) | assumption)
                                            have q104 : (ji31) < (l0.length : Int) := of_decide_eq_true (by first | (with_reducible assumption) | assumption)
                                            obtain ⟨ad104, e104, hx104_0, hx104_1, hx104_2, hx104_3, hx104_4⟩ := at_T27 HR0.out (ji31) p104 q104
                                            obtain rfl : ad102 = ad104 := (by injection e104)
                                            replace hx104_0 := (HB.out.cell (World.block_lt_of_cell? w _ hx104_0)).trans hx104_0
                                            replace hx104_1 := (HB.out.cell (World.block_lt_of_cell? w _ hx104_1)).trans hx104_1
                                            replace hx104_2 := (HB.out.cell (World.block_lt_of_cell? w _ hx104_2)).trans hx104_2
                                            replace hx104_3 := (HB.out.cell (World.block_lt_of_cell? w _ hx104_3)).trans hx104_3
                                            replace hx104_4 := (HB.out.cell (World.block_lt_of_cell? w _ hx104_4)).trans hx104_4
                                            replace p104 := eq_true p104
                                            replace q104 := eq_true q104
                                            have p105 : 0 ≤ ((ji31) : Int) := of_decide_eq_true (by first | (with_reducible assumption) | assumption)
                                            have q105 : (ji31) < (l0.length : Int) := of_decide_eq_true (by first | (with_reducible assumption) | assumption)
                                            obtain ⟨ad105, e105, hx105_0, hx105_1, hx105_2, hx105_3, hx105_4⟩ := at_T27 HR0.out (ji31) p105 q105
                                            obtain rfl : ad102 = ad105 := (by injection e105)
                                            replace hx105_0 := (HB.out.cell (World.block_lt_of_cell? w _ hx105_0)).trans hx105_0
                                            replace hx105_1 := (HB.out.cell (World.block_lt_of_cell? w _ hx105_1)).trans hx105_1
                                            replace hx105_2 := (HB.out.cell (World.block_lt_of_cell? w _ hx105_2)).trans hx105_2
                                            replace hx105_3 := (HB.out.cell (World.block_lt_of_cell? w _ hx105_3)).trans hx105_3
                                            replace hx105_4 := (HB.out.cell (World.block_lt_of_cell? w _ hx105_4)).trans hx105_4
                                            replace p105 := eq_true p105
                                            replace q105 := eq_true q105
                                            have p106 : 0 ≤ ((ji31) : Int) := of_decide_eq_true (by first | (with_reducible assumption) | assumption)
                                            have q106 : (ji31) < (l0.length : Int) := of_decide_eq_true (by first | (with_reducible assumption) | assumption)
                                            obtain ⟨ad106, e106, hx106_0, hx106_1, hx106_2, hx106_3, hx106_4⟩ := at_T27 HR0.out (ji31) p106 q106
                                            obtain rfl : ad102 = ad106 := (by injection e106)
                                            replace hx106_0 := (HB.out.cell (World.block_lt_of_cell? w _ hx106_0)).trans hx106_0
                                            replace hx106_1 := (HB.out.cell (World.block_lt_of_cell? w _ hx106_1)).trans hx106_1
                                            replace hx106_2 := (HB.out.cell (World.block_lt_of_cell? w _ hx106_2)).trans hx106_2
                                            replace hx106_3 := (HB.out.cell (World.block_lt_of_cell? w _ hx106_3)).trans hx106_3
                                            replace hx106_4 := (HB.out.cell (World.block_lt_of_cell? w _ hx106_4)).trans hx106_4
                                            replace p106 := eq_true p106
                                            replace q106 := eq_true q106
                                            go_wp2
                                            repeat (go_quiet (fail); try go_wp2)
                                            go_ret
                                            exact ⟨by first | rfl | (simp [errW_none, errW_some] <;> rfl) | (simp only [← hji31]; first | rfl | (simp [errW_none, errW_some] <;> rfl)) | (simp [*, errW_none, errW_some] <;> rfl), by repeat (first | (with_reducible first | exact HB.out | apply below_alloc | apply pw_below_drewN | apply below_drew1 | refine below_set ?_ GE103.out) | exact HB.out)⟩
                                          · rw [if_neg c37] at H
                                            have c37b0 : decide (((rd_T27 l0 x23_2).f4) < ((rd_T27 l0 (ji31)).f4)) = false := decide_eq_false c37
                                            clear c37
                                            have H' := Aside0.mk H
                                            clear H
                                            have hcz39_0 : wc.cell? ⟨gb103, 0, none⟩ = some (.int .i64 ((rd_T27 l0 x23_2).f0)) := (blk_cell BK103.out 0).trans rfl
                                            have hcz39_1 : wc.cell? ⟨gb103, 1, none⟩ = some (.string ((rd_T27 l0 x23_2).f1)) := (blk_cell BK103.out 1).trans rfl
                                            have hcz39_2 : wc.cell? ⟨gb103, 2, none⟩ = some (.int .i64 ((rd_T27 l0 x23_2).f2)) := (blk_cell BK103.out 2).trans rfl
                                            have hcz39_3 : wc.cell? ⟨gb103, 3, none⟩ = some (.int .i64 ((rd_T27 l0 x23_2).f3)) := (blk_cell BK103.out 3).trans rfl
                                            have hcz39_4 : wc.cell? ⟨gb103, 4, none⟩ = some (.int .i64 ((rd_T27 l0 x23_2).f4)) := (blk_cell BK103.out 4).trans rfl
                                            have hfz39_0 := blk_frozen BK103.out 0
                                            have hfz39_1 := blk_frozen BK103.out 1
                                            have hfz39_2 := blk_frozen BK103.out 2
                                            have hfz39_3 := blk_frozen BK103.out 3
                                            have hfz39_4 := blk_frozen BK103.out 4
                                            have p104 : 0 ≤ ((ji31) : Int) := of_decide_eq_true (by first | (with_reducible assumption) | assumption)
                                            have q104 : (ji31) < (l0.length : Int) := of_decide_eq_true (by first | (with_reducible assumption) | assumption)
                                            obtain ⟨ad104, e104, hx104_0, hx104_1, hx104_2, hx104_3, hx104_4⟩ := at_T27 HR0.out (ji31) p104 q104
                                            obtain rfl : ad102 = ad104 := (by injection e104)
                                            replace hx104_0 := (HB.out.cell (World.block_lt_of_cell? w _ hx104_0)).trans hx104_0
                                            replace hx104_1 := (HB.out.cell (World.block_lt_of_cell? w _ hx104_1)).trans hx104_1
                                            replace hx104_2 := (HB.out.cell (World.block_lt_of_cell? w _ hx104_2)).trans hx104_2
                                            replace hx104_3 := (HB.out.cell (World.block_lt_of_cell? w _ hx104_3)).trans hx104_3
                                            replace hx104_4 := (HB.out.cell (World.block_lt_of_cell? w _ hx104_4)).trans hx104_4
                                            replace p104 := eq_true p104
                                            replace q104 := eq_true q104
                                            have p105 : 0 ≤ ((ji31) : Int) := of_decide_eq_true (by first | (with_reducible assumption) | assumption)
                                            have q105 : (ji31) < (l0.length : Int) := of_decide_eq_true (by first | (with_reducible assumption) | assumption)
                                            obtain ⟨ad105, e105, hx105_0, hx105_1, hx105_2, hx105_3, hx105_4⟩ := at_T27 HR0.out (ji31) p105 q105
                                            obtain rfl : ad102 = ad105 := (by injection e105)
                                            replace hx105_0 := (HB.out.cell (World.block_lt_of_cell? w _ hx105_0)).trans hx105_0
                                            replace hx105_1 := (HB.out.cell (World.block_lt_of_cell? w _ hx105_1)).trans hx105_1
                                            replace hx105_2 := (HB.out.cell (World.block_lt_of_cell? w _ hx105_2)).trans hx105_2
                                            replace hx105_3 := (HB.out.cell (World.block_lt_of_cell? w _ hx105_3)).trans hx105_3
                                            replace hx105_4 := (HB.out.cell (World.block_lt_of_cell? w _ hx105_4)).trans hx105_4
                                            replace p105 := eq_true p105
                                            replace q105 := eq_true q105
                                            have p106 : 0 ≤ ((ji31) : Int) := of_decide_eq_true (by first | (with_reducible assumption) | assumption)
                                            have q106 : (ji31) < (l0.length : Int) := of_decide_eq_true (by first | (with_reducible assumption) | assumption)
                                            obtain ⟨ad106, e106, hx106_0, hx106_1, hx106_2, hx106_3, hx106_4⟩ := at_T27 HR0.out (ji31) p106 q106
                                            obtain rfl : ad102 = ad106 := (by injection e106)
                                            replace hx106_0 := (HB.out.cell (World.block_lt_of_cell? w _ hx106_0)).trans hx106_0
                                            replace hx106_1 := (HB.out.cell (World.block_lt_of_cell? w _ hx106_1)).trans hx106_1
                                            replace hx106_2 := (HB.out.cell (World.block_lt_of_cell? w _ hx106_2)).trans hx106_2
                                            replace hx106_3 := (HB.out.cell (World.block_lt_of_cell? w _ hx106_3)).trans hx106_3
                                            replace hx106_4 := (HB.out.cell (World.block_lt_of_cell? w _ hx106_4)).trans hx106_4
                                            replace p106 := eq_true p106
                                            replace q106 := eq_true q106
                                            go_wp2
                                            repeat (go_quiet (fail); try go_wp2)
                                            go_roundg kj18
                                            case measure => have := HJ2.out; have := HK2.out; have := HJ11.out; have := HJ18.out; omega
                                            case rel => exact ⟨(wrap64 (x23_2 + 1)), (by first | rfl | (simp; done) | (simp [*]; done)), H', ⟨by have := HJ2.out; have := HK2.out; have := HJ11.out; have := HJ18.out; omega⟩, ⟨by repeat (first | (with_reducible first | exact HB.out | apply below_alloc | apply pw_below_drewN | apply below_drew1 | refine below_set ?_ GE103.out) | exact HB.out)⟩⟩
                                        · rw [if_neg c36] at H
                                          have c36b0 : (((rd_T27 l0 x23_2).f3) == ((rd_T27 l0 (ji31)).f3)) = false := beq_eq_false_iff_ne.mpr c36
                                          have c36b1 : (((rd_T27 l0 x23_2).f3) != ((rd_T27 l0 (ji31)).f3)) = true := bne_iff_ne.mpr c36
                                          have H' := Aside0.mk H
                                          clear H
                                          have hcz40_0 : wc.cell? ⟨gb103, 0, none⟩ = some (.int .i64 ((rd_T27 l0 x23_2).f0)) := (blk_cell BK103.out 0).trans rfl
                                          have hcz40_1 : wc.cell? ⟨gb103, 1, none⟩ = some (.string ((rd_T27 l0 x23_2).f1)) := (blk_cell BK103.out 1).trans rfl
                                          have hcz40_2 : wc.cell? ⟨gb103, 2, none⟩ = some (.int .i64 ((rd_T27 l0 x23_2).f2)) := (blk_cell BK103.out 2).trans rfl
                                          have hcz40_3 : wc.cell? ⟨gb103, 3, none⟩ = some (.int .i64 ((rd_T27 l0 x23_2).f3)) := (blk_cell BK103.out 3).trans rfl
                                          have hcz40_4 : wc.cell? ⟨gb103, 4, none⟩ = some (.int .i64 ((rd_T27 l0 x23_2).f4)) := (blk_cell BK103.out 4).trans rfl
                                          have hfz40_0 := blk_frozen BK103.out 0
                                          have hfz40_1 := blk_frozen BK103.out 1
                                          have hfz40_2 := blk_frozen BK103.out 2
                                          have hfz40_3 := blk_frozen BK103.out 3
                                          have hfz40_4 := blk_frozen BK103.out 4
                                          have p104 : 0 ≤ ((ji31) : Int) := of_decide_eq_true (by first | (with_reducible assumption) | assumption)
                                          have q104 : (ji31) < (l0.length : Int) := of_decide_eq_true (by first | (with_reducible assumption) | assumption)
                                          obtain ⟨ad104, e104, hx104_0, hx104_1, hx104_2, hx104_3, hx104_4⟩ := at_T27 HR0.out (ji31) p104 q104
                                          obtain rfl : ad102 = ad104 := (by injection e104)
                                          replace hx104_0 := (HB.out.cell (World.block_lt_of_cell? w _ hx104_0)).trans hx104_0
                                          replace hx104_1 := (HB.out.cell (World.block_lt_of_cell? w _ hx104_1)).trans hx104_1
                                          replace hx104_2 := (HB.out.cell (World.block_lt_of_cell? w _ hx104_2)).trans hx104_2
                                          replace hx104_3 := (HB.out.cell (World.block_lt_of_cell? w _ hx104_3)).trans hx104_3
                                          replace hx104_4 := (HB.out.cell (World.block_lt_of_cell? w _ hx104_4)).trans hx104_4
                                          replace p104 := eq_true p104
                                          replace q104 := eq_true q104
                                          have p105 : 0 ≤ ((ji31) : Int) := of_decide_eq_true (by first | (with_reducible assumption) | assumption)
                                          have q105 : (ji31) < (l0.length : Int) := of_decide_eq_true (by first | (with_reducible assumption) | assumption)
                                          obtain ⟨ad105, e105, hx105_0, hx105_1, hx105_2, hx105_3, hx105_4⟩ := at_T27 HR0.out (ji31) p105 q105
                                          obtain rfl : ad102 = ad105 := (by injection e105)
                                          replace hx105_0 := (HB.out.cell (World.block_lt_of_cell? w _ hx105_0)).trans hx105_0
                                          replace hx105_1 := (HB.out.cell (World.block_lt_of_cell? w _ hx105_1)).trans hx105_1
                                          replace hx105_2 := (HB.out.cell (World.block_lt_of_cell? w _ hx105_2)).trans hx105_2
                                          replace hx105_3 := (HB.out.cell (World.block_lt_of_cell? w _ hx105_3)).trans hx105_3
                                          replace hx105_4 := (HB.out.cell (World.block_lt_of_cell? w _ hx105_4)).trans hx105_4
                                          replace p105 := eq_true p105
                                          replace q105 := eq_true q105
                                          go_wp2
                                          repeat (go_quiet (fail); try go_wp2)
                                          go_roundg kj18
                                          case measure => have := HJ2.out; have := HK2.out; have := HJ11.out; have := HJ18.out; omega
                                          case rel => exact ⟨(wrap64 (x23_2 + 1)), (by first | rfl | (simp; done) | (simp [*]; done)), H', ⟨by have := HJ2.out; have := HK2.out; have := HJ11.out; have := HJ18.out; omega⟩, ⟨by repeat (first | (with_reducible first | exact HB.out | apply below_alloc | apply pw_below_drewN | apply below_drew1 | refine below_set ?_ GE103.out) | exact HB.out)⟩⟩
                                    · rw [if_neg c33] at H
                                      exact absurd H (by simp)
                                  · rw [if_neg c32] at H
                                    exact absurd H (by simp)
                                · rw [if_neg c30] at H
                                  have c30b0 : decide (0 < x23_2) = false := decide_eq_false c30
                                  clear c30
                                  have H' := Aside0.mk H
                                  clear H
                                  go_wp2
                                  repeat (go_quiet (fail); try go_wp2)
                                  go_roundg kj18
                                  case measure => have := HJ2.out; have := HK2.out; have := HJ11.out; have := HJ18.out; omega
                                  case rel => exact ⟨(wrap64 (x23_2 + 1)), (by first | rfl | (simp; done) | (simp [*]; done)), H', ⟨by have := HJ2.out; have := HK2.out; have := HJ11.out; have := HJ18.out; omega⟩, ⟨by repeat (first | (with_reducible first | exact HB.out | apply below_alloc | apply pw_below_drewN | apply below_drew1 | refine below_set ?_ GE103.out) | exact HB.out)⟩⟩
                  · rw [if_neg c11] at H
                    exact absurd H (by simp)
                · rw [if_neg c10] at H
                  exact absurd H (by simp)
              · rw [if_neg c9] at H
                have c9b0 : decide (x23_2 < (l0.length : Int)) = false := decide_eq_false c9
                clear c9
                obtain rfl := Option.some.inj H
                go_wp2
                repeat (go_quiet (fail); try go_wp2)
                go_ret
                exact ⟨by first | rfl | (simp [errW_none, errW_some] <;> rfl) | (simp [*, errW_none, errW_some] <;> rfl), by repeat (first | (with_reducible first | exact HB.out | apply below_alloc | apply pw_below_drewN | apply below_drew1) | exact HB.out)⟩

end Go.Proofs.Ytchbjjefjmcakaa.PLayoutBlocks
