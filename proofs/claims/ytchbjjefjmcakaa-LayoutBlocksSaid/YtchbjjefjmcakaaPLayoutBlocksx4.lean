-- PRINTED BY print.sh 35421559b90ae4d0a3588c463048766b98c2df88dd9212a6774a882060cdf62d: not written by this session
import Derived.Test.YtchbjjefjmcakaaPLayoutBlocksx0
namespace Go.Proofs.Ytchbjjefjmcakaa.PLayoutBlocks
open Go.RowKit Go.Proofs.YtchbjjefjmcakaaW.PrintWords Go.Proofs.YtchbjjefjmcakaaW.PrintLast Go.Proofs.YtchbjjefjmcakaaW.PrintMore
attribute [local go_sem] max2_int min2_int max_two min_two max_three min_three max_four min_four   -- for this text's walks alone
set_option linter.unusedVariables false
set_option linter.unusedSimpArgs false

/-! ### provenancelaw1_tokensError: function 5 -/
mutual
def provenancelaw1_tokensError.j0 : Nat → List (S27) → Bool → Option (Int)
  | 0, _, _ => none
  | k + 1, x0, x22 => if x22 = true then (some 3) else (provenancelaw1_tokensError.l0 k x0 x0 (x0.length : Int) 0)
def provenancelaw1_tokensError.l0 : Nat → List (S27) → List (S27) → Int → Int → Option (Int)
  | 0, _, _, _, _ => none
  | k + 1, x0, x23, x24, x25 => if x25 < x24 then (if 0 ≤ x25 then (if x25 < (x23.length : Int) then (if ((rd_T27 x23 x25).f3) < 1 then (provenancelaw1_tokensError.j2 k x0 x25 x23 x24 x25 true ((rd_T27 x23 x25).f0) ((rd_T27 x23 x25).f1) ((rd_T27 x23 x25).f2) ((rd_T27 x23 x25).f3) ((rd_T27 x23 x25).f4)) else (provenancelaw1_tokensError.j2 k x0 x25 x23 x24 x25 (decide (((rd_T27 x23 x25).f4) < 1)) ((rd_T27 x23 x25).f0) ((rd_T27 x23 x25).f1) ((rd_T27 x23 x25).f2) ((rd_T27 x23 x25).f3) ((rd_T27 x23 x25).f4))) else (none)) else (none)) else (some 0)
def provenancelaw1_tokensError.j2 : Nat → List (S27) → Int → List (S27) → Int → Int → Bool → Int → ByteArray → Int → Int → Int → Option (Int)
  | 0, _, _, _, _, _, _, _, _, _, _, _ => none
  | k + 1, x0, x3, x23, x24, x25, x37, x129000, x129001, x129002, x129003, x129004 => if x37 = true then (some 4) else (if x129000 ≥ 0 then (if x129000 ≤ 5 then (if x3 > 0 then (if 0 ≤ (wrap64 (x3 - 1)) then (if (wrap64 (x3 - 1)) < (x0.length : Int) then (if x129003 < ((rd_T27 x0 (wrap64 (x3 - 1))).f3) then (if x129000 = 9 then (if x3 < (wrap64 ((x0.length : Int) - 1)) then (some 3) else (some 3)) else (some 3)) else (if x129003 = ((rd_T27 x0 (wrap64 (x3 - 1))).f3) then (if x129000 = 9 then (if x3 < (wrap64 ((x0.length : Int) - 1)) then (some 3) else (if x129004 < ((rd_T27 x0 (wrap64 (x3 - 1))).f4) then (some 3) else (provenancelaw1_tokensError.l0 k x0 x23 x24 (wrap64 (x25 + 1))))) else (if x129004 < ((rd_T27 x0 (wrap64 (x3 - 1))).f4) then (some 3) else (provenancelaw1_tokensError.l0 k x0 x23 x24 (wrap64 (x25 + 1))))) else (if x129000 = 9 then (if x3 < (wrap64 ((x0.length : Int) - 1)) then (some 3) else (provenancelaw1_tokensError.l0 k x0 x23 x24 (wrap64 (x25 + 1)))) else (provenancelaw1_tokensError.l0 k x0 x23 x24 (wrap64 (x25 + 1)))))) else (none)) else (none)) else (if x129000 = 9 then (if x3 < (wrap64 ((x0.length : Int) - 1)) then (some 3) else (provenancelaw1_tokensError.l0 k x0 x23 x24 (wrap64 (x25 + 1)))) else (provenancelaw1_tokensError.l0 k x0 x23 x24 (wrap64 (x25 + 1))))) else (if x3 > 0 then (if 0 ≤ (wrap64 (x3 - 1)) then (if (wrap64 (x3 - 1)) < (x0.length : Int) then (if x129003 < ((rd_T27 x0 (wrap64 (x3 - 1))).f3) then (if x129000 = 9 then (if x3 < (wrap64 ((x0.length : Int) - 1)) then (some 3) else (some 3)) else (some 3)) else (if x129003 = ((rd_T27 x0 (wrap64 (x3 - 1))).f3) then (if x129000 = 9 then (if x3 < (wrap64 ((x0.length : Int) - 1)) then (some 3) else (if x129004 < ((rd_T27 x0 (wrap64 (x3 - 1))).f4) then (some 3) else (provenancelaw1_tokensError.l0 k x0 x23 x24 (wrap64 (x25 + 1))))) else (some 3)) else (if x129000 = 9 then (if x3 < (wrap64 ((x0.length : Int) - 1)) then (some 3) else (provenancelaw1_tokensError.l0 k x0 x23 x24 (wrap64 (x25 + 1)))) else (some 3)))) else (none)) else (none)) else (if x129000 = 9 then (if x3 < (wrap64 ((x0.length : Int) - 1)) then (some 3) else (provenancelaw1_tokensError.l0 k x0 x23 x24 (wrap64 (x25 + 1)))) else (some 3)))) else (if x3 > 0 then (if 0 ≤ (wrap64 (x3 - 1)) then (if (wrap64 (x3 - 1)) < (x0.length : Int) then (if x129003 < ((rd_T27 x0 (wrap64 (x3 - 1))).f3) then (if x129000 = 9 then (if x3 < (wrap64 ((x0.length : Int) - 1)) then (some 3) else (some 3)) else (some 3)) else (if x129003 = ((rd_T27 x0 (wrap64 (x3 - 1))).f3) then (if x129000 = 9 then (if x3 < (wrap64 ((x0.length : Int) - 1)) then (some 3) else (if x129004 < ((rd_T27 x0 (wrap64 (x3 - 1))).f4) then (some 3) else (provenancelaw1_tokensError.l0 k x0 x23 x24 (wrap64 (x25 + 1))))) else (some 3)) else (if x129000 = 9 then (if x3 < (wrap64 ((x0.length : Int) - 1)) then (some 3) else (provenancelaw1_tokensError.l0 k x0 x23 x24 (wrap64 (x25 + 1)))) else (some 3)))) else (none)) else (none)) else (if x129000 = 9 then (if x3 < (wrap64 ((x0.length : Int) - 1)) then (some 3) else (provenancelaw1_tokensError.l0 k x0 x23 x24 (wrap64 (x25 + 1)))) else (some 3))))
end
def provenancelaw1_tokensError.f (k : Nat) (l0 : List (S27)) : Option (Int) := if (l0.length : Int) > 8193 then (some 2) else (if (l0.length : Int) = 0 then (provenancelaw1_tokensError.j0 k l0 true) else (if 0 ≤ (wrap64 ((l0.length : Int) - 1)) then (if (wrap64 ((l0.length : Int) - 1)) < (l0.length : Int) then (provenancelaw1_tokensError.j0 k l0 (((rd_T27 l0 (wrap64 ((l0.length : Int) - 1))).f0) != 9)) else (none)) else (none)))
theorem provenancelaw1_tokensError.mono_l : ∀ k, (∀ y0 y1, LeO (provenancelaw1_tokensError.j0 k y0 y1) (provenancelaw1_tokensError.j0 (k + 1) y0 y1)) ∧ (∀ y0 y1 y2 y3, LeO (provenancelaw1_tokensError.l0 k y0 y1 y2 y3) (provenancelaw1_tokensError.l0 (k + 1) y0 y1 y2 y3)) ∧ (∀ y0 y1 y2 y3 y4 y5 y6 y7 y8 y9 y10, LeO (provenancelaw1_tokensError.j2 k y0 y1 y2 y3 y4 y5 y6 y7 y8 y9 y10) (provenancelaw1_tokensError.j2 (k + 1) y0 y1 y2 y3 y4 y5 y6 y7 y8 y9 y10))
  | 0 => ⟨fun _ _ r h => by simp [provenancelaw1_tokensError.j0] at h, fun _ _ _ _ r h => by simp [provenancelaw1_tokensError.l0] at h, fun _ _ _ _ _ _ _ _ _ _ _ r h => by simp [provenancelaw1_tokensError.j2] at h⟩
  | k + 1 => by
    obtain ⟨ih0, ih1, ih2⟩ := provenancelaw1_tokensError.mono_l k
    refine ⟨?_, ?_, ?_⟩
    · intro y0 y1
      unfold provenancelaw1_tokensError.j0
      repeat' first
      | (with_reducible exact ih0 _ _)
      | (with_reducible exact ih1 _ _ _ _)
      | (with_reducible exact ih2 _ _ _ _ _ _ _ _ _ _ _)
      | (with_reducible exact LeO.refl _)
      | (with_reducible exact LeO.none _)
      | (with_reducible refine LeO.ite ?_ ?_)
      | (with_reducible refine LeO.bind ?_ (fun _ => ?_))
      | exact ih0 _ _
      | exact ih1 _ _ _ _
      | exact ih2 _ _ _ _ _ _ _ _ _ _ _
      | exact LeO.none _
      | refine LeO.ite ?_ ?_
      | refine LeO.bind ?_ (fun _ => ?_)
    · intro y0 y1 y2 y3
      unfold provenancelaw1_tokensError.l0
      repeat' first
      | (with_reducible exact ih0 _ _)
      | (with_reducible exact ih1 _ _ _ _)
      | (with_reducible exact ih2 _ _ _ _ _ _ _ _ _ _ _)
      | (with_reducible exact LeO.refl _)
      | (with_reducible exact LeO.none _)
      | (with_reducible refine LeO.ite ?_ ?_)
      | (with_reducible refine LeO.bind ?_ (fun _ => ?_))
      | exact ih0 _ _
      | exact ih1 _ _ _ _
      | exact ih2 _ _ _ _ _ _ _ _ _ _ _
      | exact LeO.none _
      | refine LeO.ite ?_ ?_
      | refine LeO.bind ?_ (fun _ => ?_)
    · intro y0 y1 y2 y3 y4 y5 y6 y7 y8 y9 y10
      unfold provenancelaw1_tokensError.j2
      repeat' first
      | (with_reducible exact ih0 _ _)
      | (with_reducible exact ih1 _ _ _ _)
      | (with_reducible exact ih2 _ _ _ _ _ _ _ _ _ _ _)
      | (with_reducible exact LeO.refl _)
      | (with_reducible exact LeO.none _)
      | (with_reducible refine LeO.ite ?_ ?_)
      | (with_reducible refine LeO.bind ?_ (fun _ => ?_))
      | exact ih0 _ _
      | exact ih1 _ _ _ _
      | exact ih2 _ _ _ _ _ _ _ _ _ _ _
      | exact LeO.none _
      | refine LeO.ite ?_ ?_
      | refine LeO.bind ?_ (fun _ => ?_)
theorem provenancelaw1_tokensError.mono : ∀ a0 k, LeO (provenancelaw1_tokensError.f k a0) (provenancelaw1_tokensError.f (k + 1) a0) := by
  intro a0 k
  obtain ⟨ih0, ih1, ih2⟩ := provenancelaw1_tokensError.mono_l k
  unfold provenancelaw1_tokensError.f
  repeat' first
      | (with_reducible exact ih0 _ _)
      | (with_reducible exact ih1 _ _ _ _)
      | (with_reducible exact ih2 _ _ _ _ _ _ _ _ _ _ _)
      | (with_reducible exact LeO.refl _)
      | (with_reducible exact LeO.none _)
      | (with_reducible refine LeO.ite ?_ ?_)
      | (with_reducible refine LeO.bind ?_ (fun _ => ?_))
      | exact ih0 _ _
      | exact ih1 _ _ _ _
      | exact ih2 _ _ _ _ _ _ _ _ _ _ _
      | exact LeO.none _
      | refine LeO.ite ?_ ?_
      | refine LeO.bind ?_ (fun _ => ?_)
set_option maxHeartbeats 8000000 in
set_option maxRecDepth 100000 in
theorem provenancelaw1_tokensError.calls (k : Nat) (A0 : Option Addr) (c0 : Nat) (l0 : List (S27)) (r : Int) (w : World) (hr0 : Kd.C k27 w A0 l0.length l0) (hc0 : l0.length ≤ c0) (h : provenancelaw1_tokensError.f k l0 = some r) :
    Calls Try.prog 5 #[.slice A0 l0.length c0] w fun e w' => e = .returned (.int .i64 r) ∧ Below w.heap.size w w' := by
  have hu27 := Try.underlying27
  have HR0 := Aside0.mk hr0
  have HC0 := Aside0.mk hc0
  clear hr0 hc0
  have HB := Aside0.mk (Below.refl w.heap.size w)
  have H : (if (l0.length : Int) > 8193 then (some 2) else (if (l0.length : Int) = 0 then (provenancelaw1_tokensError.j0 k l0 true) else (if 0 ≤ (wrap64 ((l0.length : Int) - 1)) then (if (wrap64 ((l0.length : Int) - 1)) < (l0.length : Int) then (provenancelaw1_tokensError.j0 k l0 (((rd_T27 l0 (wrap64 ((l0.length : Int) - 1))).f0) != 9)) else (none)) else (none)))) = some r := h
  clear h
  by_cases c2 : (l0.length : Int) > 8193
  · rw [if_pos c2] at H
    have c2b0 : decide (8193 < (l0.length : Int)) = true := decide_eq_true c2
    have c2b1 : decide (8193 < l0.length) = true := decide_eq_true (by omega)
    clear c2
    obtain rfl := Option.some.inj H
    go_enter Try.func5, Try.ntmps5
    go_wp2
    repeat (go_quiet (fail); try go_wp2)
    go_ret
    exact ⟨by first | rfl | (simp [errW_none, errW_some] <;> rfl) | (simp [*, errW_none, errW_some] <;> rfl), by repeat (first | (with_reducible first | exact HB.out | apply below_alloc | apply pw_below_drewN | apply below_drew1) | exact HB.out)⟩
  · rw [if_neg c2] at H
    have c2b0 : decide (8193 < (l0.length : Int)) = false := decide_eq_false c2
    have c2b1 : decide (8193 < l0.length) = false := decide_eq_false (by omega)
    clear c2
    have HC3 := Aside0.mk H
    clear H
    go_enter Try.func5, Try.ntmps5
    go_upto_region 3 with (fail)
    repeat (go_quiet (fail); go_upto_region 3 with (fail))
    go_cut [22] (fun v22 wc => ∃ (kq : Nat) (x22_2 : Bool), v22 = .bool x22_2 ∧ Aside0 (provenancelaw1_tokensError.j0 kq l0 x22_2 = some r) ∧ Aside0 (kq ≤ k) ∧ Aside0 (Below w.heap.size w wc))
    case first =>
      have H := HC3.out
      clear HC3
      by_cases c4 : (l0.length : Int) = 0
      · rw [if_pos c4] at H
        have c4b0 : ((l0.length : Int) == 0) = true := beq_iff_eq.mpr c4
        have c4b1 : ((l0.length : Int) != 0) = false := bne_eq_false_iff_eq.mpr c4
        clear c4
        (first | rw [c4b0] | (simp only [i64_w, i32_w]; rw [c4b0]) | skip)
        have H' := Aside0.mk H
        clear H
        go_wp2
        repeat (go_quiet (fail); try go_wp2)
        go_meet
        case rel => exact ⟨_, (true), (by first | rfl | (simp; done) | (simp [*]; done)), H', ⟨by first | omega | exact Nat.le_refl _⟩, ⟨by repeat (first | (with_reducible first | exact HB.out | apply below_alloc | apply pw_below_drewN | apply below_drew1) | exact HB.out)⟩⟩
      · rw [if_neg c4] at H
        have c4b0 : ((l0.length : Int) == 0) = false := beq_eq_false_iff_ne.mpr c4
        have c4b1 : ((l0.length : Int) != 0) = true := bne_iff_ne.mpr c4
        have c4b2 : ¬ (l0 = []) := fun h_ => c4 (by rw [h_]; rfl)
        (first | rw [c4b0] | (simp only [i64_w, i32_w]; rw [c4b0]) | skip)
        obtain ⟨ji5, hji5⟩ : ∃ j_ : Int, (wrap64 ((l0.length : Int) - 1)) = j_ := ⟨_, rfl⟩
        replace H : (if 0 ≤ (ji5) then (if (ji5) < (l0.length : Int) then (provenancelaw1_tokensError.j0 k l0 (((rd_T27 l0 (ji5)).f0) != 9)) else (none)) else (none)) = some r := by first | (rw [hji5] at H; exact H) | (simp only [hji5] at H ⊢; exact H)
        have hji5w : (IntKind.i64.wrap ((l0.length : Int) - 1)) = ji5 := (i64_w _).trans hji5
        by_cases c6 : 0 ≤ (ji5)
        · rw [if_pos c6] at H
          have c6b0 : decide (0 ≤ (ji5)) = true := decide_eq_true c6
          clear c6
          by_cases c7 : (ji5) < (l0.length : Int)
          · rw [if_pos c7] at H
            have c7b0 : decide ((ji5) < (l0.length : Int)) = true := decide_eq_true c7
            clear c7
            have H' := Aside0.mk H
            clear H
            have p126 : 0 ≤ ((ji5) : Int) := of_decide_eq_true (by first | (with_reducible assumption) | assumption)
            have q126 : (ji5) < (l0.length : Int) := of_decide_eq_true (by first | (with_reducible assumption) | assumption)
            obtain ⟨ad126, e126, hx126_0, hx126_1, hx126_2, hx126_3, hx126_4⟩ := at_T27 HR0.out (ji5) p126 q126
            cases e126
            replace hx126_0 := (HB.out.cell (World.block_lt_of_cell? w _ hx126_0)).trans hx126_0
            replace hx126_1 := (HB.out.cell (World.block_lt_of_cell? w _ hx126_1)).trans hx126_1
            replace hx126_2 := (HB.out.cell (World.block_lt_of_cell? w _ hx126_2)).trans hx126_2
            replace hx126_3 := (HB.out.cell (World.block_lt_of_cell? w _ hx126_3)).trans hx126_3
            replace hx126_4 := (HB.out.cell (World.block_lt_of_cell? w _ hx126_4)).trans hx126_4
            replace p126 := eq_true p126
            replace q126 := eq_true q126
            go_wp2
            repeat (go_quiet (fail); try go_wp2)
            go_meet
            case rel => exact ⟨_, ((((rd_T27 l0 (ji5)).f0) != 9)), (by first | rfl | (simp; done) | (simp only [← hji5] <;> (first | rfl | simp)) | (simp [*]; done)), H', ⟨by first | omega | exact Nat.le_refl _⟩, ⟨by repeat (first | (with_reducible first | exact HB.out | apply below_alloc | apply pw_below_drewN | apply below_drew1) | exact HB.out)⟩⟩
          · rw [if_neg c7] at H
            exact absurd H (by simp)
        · rw [if_neg c6] at H
          exact absurd H (by simp)
    case rest =>
      clear HC3
      try clear p1
      try clear q1
      try clear hx1
      try clear c2
      try clear c2b0
      try clear c2b1
      try clear p2
      try clear c4
      try clear c4b0
      try clear c4b1
      try clear c4b2
      try clear c5
      try clear c6
      try clear c6b0
      try clear p6
      try clear c7
      try clear c7b0
      try clear hx126_0
      try clear hx126_1
      try clear hx126_2
      try clear hx126_3
      try clear hx126_4
      try clear p126
      try clear q126
      obtain ⟨kq, x22_2, rfl, HA, HJ2, HB⟩ := hcut
      cases kq with
      | zero => exact absurd HA.out (by simp [provenancelaw1_tokensError.j0])
      | succ kj2 =>
        have H := HA.out
        clear HA
        simp only [provenancelaw1_tokensError.j0] at H
        by_cases c8 : x22_2 = true
        · subst c8
          have H1 : (some 3) = some r := by rw [if_pos rfl] at H; exact H
          clear H
          have H := H1
          clear H1
          obtain rfl := Option.some.inj H
          go_wp2
          repeat (go_quiet (fail); try go_wp2)
          go_ret
          exact ⟨by first | rfl | (simp [errW_none, errW_some] <;> rfl) | (simp [*, errW_none, errW_some] <;> rfl), by repeat (first | (with_reducible first | exact HB.out | apply below_alloc | apply pw_below_drewN | apply below_drew1) | exact HB.out)⟩
        · replace c8 := Bool.eq_false_iff.mpr c8
          subst c8
          have H1 : (provenancelaw1_tokensError.l0 kj2 l0 l0 (l0.length : Int) 0) = some r := by rw [if_neg (show ¬ (false = true) by decide)] at H; exact H
          clear H
          have H := H1
          clear H1
          have H' := Aside0.mk H
          clear H
          go_wp2
          repeat (go_quiet (fail); try go_wp2)
          go_loopg [25] kj2 (fun kq v25 w' => ∃ (x25_2 : Int), v25 = .int .i64 x25_2 ∧ Aside0 (provenancelaw1_tokensError.l0 kq l0 l0 (l0.length : Int) x25_2 = some r) ∧ Aside0 (kq ≤ kj2) ∧ Aside0 (Below w.heap.size w w'))
          case atStart => exact ⟨(0), (by first | rfl | (simp; done) | (simp [*]; done)), H', ⟨Nat.le_refl _⟩, ⟨by repeat (first | (with_reducible first | exact HB.out | apply below_alloc | apply pw_below_drewN | apply below_drew1) | exact HB.out)⟩⟩
          case round =>
            clear H'
            try clear p1
            try clear q1
            try clear hx1
            try clear c2
            try clear c2b0
            try clear c2b1
            try clear p2
            try clear c4
            try clear c4b0
            try clear c4b1
            try clear c4b2
            try clear c5
            try clear c6
            try clear c6b0
            try clear p6
            try clear c7
            try clear c7b0
            try clear c8
            try clear hx126_0
            try clear hx126_1
            try clear hx126_2
            try clear hx126_3
            try clear hx126_4
            try clear p1
            try clear p126
            try clear p2
            try clear p6
            try clear q1
            try clear q126
            obtain ⟨x25_2, rfl, HA, HK2, HB⟩ := hrel
            cases gk with
            | zero => exact absurd HA.out (by simp [provenancelaw1_tokensError.l0])
            | succ k2 =>
              have H := HA.out
              clear HA
              simp only [provenancelaw1_tokensError.l0] at H
              by_cases c9 : x25_2 < (l0.length : Int)
              · rw [if_pos c9] at H
                have c9b0 : decide (x25_2 < (l0.length : Int)) = true := decide_eq_true c9
                clear c9
                by_cases c10 : 0 ≤ x25_2
                · rw [if_pos c10] at H
                  have c10b0 : decide (0 ≤ x25_2) = true := decide_eq_true c10
                  clear c10
                  by_cases c11 : x25_2 < (l0.length : Int)
                  · rw [if_pos c11] at H
                    have c11b0 : decide (x25_2 < (l0.length : Int)) = true := decide_eq_true c11
                    clear c11
                    have HC12 := Aside0.mk H
                    clear H
                    have p127 : 0 ≤ (x25_2 : Int) := of_decide_eq_true (by first | (with_reducible assumption) | assumption)
                    have q127 : x25_2 < (l0.length : Int) := of_decide_eq_true (by first | (with_reducible assumption) | assumption)
                    obtain ⟨ad127, e127, hx127_0, hx127_1, hx127_2, hx127_3, hx127_4⟩ := at_T27 HR0.out x25_2 p127 q127
                    cases e127
                    replace hx127_0 := (HB.out.cell (World.block_lt_of_cell? w _ hx127_0)).trans hx127_0
                    replace hx127_1 := (HB.out.cell (World.block_lt_of_cell? w _ hx127_1)).trans hx127_1
                    replace hx127_2 := (HB.out.cell (World.block_lt_of_cell? w _ hx127_2)).trans hx127_2
                    replace hx127_3 := (HB.out.cell (World.block_lt_of_cell? w _ hx127_3)).trans hx127_3
                    replace hx127_4 := (HB.out.cell (World.block_lt_of_cell? w _ hx127_4)).trans hx127_4
                    replace p127 := eq_true p127
                    replace q127 := eq_true q127
                    go_upto_region 8 with (first | ((with_reducible refine gate_dst (N := 4) rfl ?_); (try (refine gate_guard (by rfl) ?_; dsimp only)); refine box_event ?hg (N := 4) ?hd (cs := #[.int .i64 0, .string (⟨#[]⟩ : ByteArray), .int .i64 0, .int .i64 0, .int .i64 0]) (t := 27) ?hr ?_; (case hd => rfl); (case hg => rfl); (case hr => first | (go_simp; done) | (go_simp; rfl)); intro gb128 hg w13 hbox hb; have n0_ := Aside0.mk (below_step (by repeat (first | (with_reducible first | exact HB.out | apply below_alloc | apply pw_below_drewN | apply below_drew1) | exact HB.out)) hb); have n1_ := Aside0.mk (hbox); have n2_ := Aside0.mk ((by rw [hg]; exact (below_size (by repeat (first | (with_reducible first | exact HB.out | apply below_alloc | apply pw_below_drewN | apply below_drew1) | exact HB.out))) : w.heap.size ≤ gb128)); have n3_ := Aside0.mk ((by rw [hg]; exact (below_size (by repeat (first | (with_reducible first | exact HB.out | apply below_alloc | apply pw_below_drewN | apply below_drew1) | exact HB.out))) : w.heap.size ≤ gb128)); clear HB; have HB := n0_; have BK128 := n1_; have GW128 := n2_; have GE128 := n3_; clear n0_ n1_ n2_ n3_; clear hb hbox hg; have hcz14_0 : w13.cell? ⟨gb128, 0, none⟩ = some (.int .i64 0) := (blk_cell BK128.out 0).trans rfl; have hcz14_1 : w13.cell? ⟨gb128, 1, none⟩ = some (.string (⟨#[]⟩ : ByteArray)) := (blk_cell BK128.out 1).trans rfl; have hcz14_2 : w13.cell? ⟨gb128, 2, none⟩ = some (.int .i64 0) := (blk_cell BK128.out 2).trans rfl; have hcz14_3 : w13.cell? ⟨gb128, 3, none⟩ = some (.int .i64 0) := (blk_cell BK128.out 3).trans rfl; have hcz14_4 : w13.cell? ⟨gb128, 4, none⟩ = some (.int .i64 0) := (blk_cell BK128.out 4).trans rfl; have hfz14_0 := blk_frozen BK128.out 0; have hfz14_1 := blk_frozen BK128.out 1; have hfz14_2 := blk_frozen BK128.out 2; have hfz14_3 := blk_frozen BK128.out 3; have hfz14_4 := blk_frozen BK128.out 4))
                    repeat (go_quiet (first | ((with_reducible refine gate_dst (N := 4) rfl ?_); (try (refine gate_guard (by rfl) ?_; dsimp only)); refine box_event ?hg (N := 4) ?hd (cs := #[.int .i64 0, .string (⟨#[]⟩ : ByteArray), .int .i64 0, .int .i64 0, .int .i64 0]) (t := 27) ?hr ?_; (case hd => rfl); (case hg => rfl); (case hr => first | (go_simp; done) | (go_simp; rfl)); intro gb128 hg w13 hbox hb; have n0_ := Aside0.mk (below_step (by repeat (first | (with_reducible first | exact HB.out | apply below_alloc | apply pw_below_drewN | apply below_drew1) | exact HB.out)) hb); have n1_ := Aside0.mk (hbox); have n2_ := Aside0.mk ((by rw [hg]; exact (below_size (by repeat (first | (with_reducible first | exact HB.out | apply below_alloc | apply pw_below_drewN | apply below_drew1) | exact HB.out))) : w.heap.size ≤ gb128)); have n3_ := Aside0.mk ((by rw [hg]; exact (below_size (by repeat (first | (with_reducible first | exact HB.out | apply below_alloc | apply pw_below_drewN | apply below_drew1) | exact HB.out))) : w.heap.size ≤ gb128)); clear HB; have HB := n0_; have BK128 := n1_; have GW128 := n2_; have GE128 := n3_; clear n0_ n1_ n2_ n3_; clear hb hbox hg; have hcz14_0 : w13.cell? ⟨gb128, 0, none⟩ = some (.int .i64 0) := (blk_cell BK128.out 0).trans rfl; have hcz14_1 : w13.cell? ⟨gb128, 1, none⟩ = some (.string (⟨#[]⟩ : ByteArray)) := (blk_cell BK128.out 1).trans rfl; have hcz14_2 : w13.cell? ⟨gb128, 2, none⟩ = some (.int .i64 0) := (blk_cell BK128.out 2).trans rfl; have hcz14_3 : w13.cell? ⟨gb128, 3, none⟩ = some (.int .i64 0) := (blk_cell BK128.out 3).trans rfl; have hcz14_4 : w13.cell? ⟨gb128, 4, none⟩ = some (.int .i64 0) := (blk_cell BK128.out 4).trans rfl; have hfz14_0 := blk_frozen BK128.out 0; have hfz14_1 := blk_frozen BK128.out 1; have hfz14_2 := blk_frozen BK128.out 2; have hfz14_3 := blk_frozen BK128.out 3; have hfz14_4 := blk_frozen BK128.out 4)); go_upto_region 8 with (first | ((with_reducible refine gate_dst (N := 4) rfl ?_); (try (refine gate_guard (by rfl) ?_; dsimp only)); refine box_event ?hg (N := 4) ?hd (cs := #[.int .i64 0, .string (⟨#[]⟩ : ByteArray), .int .i64 0, .int .i64 0, .int .i64 0]) (t := 27) ?hr ?_; (case hd => rfl); (case hg => rfl); (case hr => first | (go_simp; done) | (go_simp; rfl)); intro gb128 hg w13 hbox hb; have n0_ := Aside0.mk (below_step (by repeat (first | (with_reducible first | exact HB.out | apply below_alloc | apply pw_below_drewN | apply below_drew1) | exact HB.out)) hb); have n1_ := Aside0.mk (hbox); have n2_ := Aside0.mk ((by rw [hg]; exact (below_size (by repeat (first | (with_reducible first | exact HB.out | apply below_alloc | apply pw_below_drewN | apply below_drew1) | exact HB.out))) : w.heap.size ≤ gb128)); have n3_ := Aside0.mk ((by rw [hg]; exact (below_size (by repeat (first | (with_reducible first | exact HB.out | apply below_alloc | apply pw_below_drewN | apply below_drew1) | exact HB.out))) : w.heap.size ≤ gb128)); clear HB; have HB := n0_; have BK128 := n1_; have GW128 := n2_; have GE128 := n3_; clear n0_ n1_ n2_ n3_; clear hb hbox hg; have hcz14_0 : w13.cell? ⟨gb128, 0, none⟩ = some (.int .i64 0) := (blk_cell BK128.out 0).trans rfl; have hcz14_1 : w13.cell? ⟨gb128, 1, none⟩ = some (.string (⟨#[]⟩ : ByteArray)) := (blk_cell BK128.out 1).trans rfl; have hcz14_2 : w13.cell? ⟨gb128, 2, none⟩ = some (.int .i64 0) := (blk_cell BK128.out 2).trans rfl; have hcz14_3 : w13.cell? ⟨gb128, 3, none⟩ = some (.int .i64 0) := (blk_cell BK128.out 3).trans rfl; have hcz14_4 : w13.cell? ⟨gb128, 4, none⟩ = some (.int .i64 0) := (blk_cell BK128.out 4).trans rfl; have hfz14_0 := blk_frozen BK128.out 0; have hfz14_1 := blk_frozen BK128.out 1; have hfz14_2 := blk_frozen BK128.out 2; have hfz14_3 := blk_frozen BK128.out 3; have hfz14_4 := blk_frozen BK128.out 4)))
                    (try simp only [Act.put, List.setIfInBounds_toArray, List.set_cons_zero, List.set_cons_succ])
                    go_cut [37] (fun v37 wc => ∃ (kq : Nat) (x37_11 : Bool), v37 = .bool x37_11 ∧ Aside0 (provenancelaw1_tokensError.j2 kq l0 x25_2 l0 (l0.length : Int) x25_2 x37_11 ((rd_T27 l0 x25_2).f0) ((rd_T27 l0 x25_2).f1) ((rd_T27 l0 x25_2).f2) ((rd_T27 l0 x25_2).f3) ((rd_T27 l0 x25_2).f4) = some r) ∧ Aside0 (kq ≤ k2) ∧ Aside0 (wc.heap[gb128]? = some (.cells #[.int .i64 ((rd_T27 l0 x25_2).f0), .string ((rd_T27 l0 x25_2).f1), .int .i64 ((rd_T27 l0 x25_2).f2), .int .i64 ((rd_T27 l0 x25_2).f3), .int .i64 ((rd_T27 l0 x25_2).f4)] 27 (0, 0))) ∧ Aside0 (Below w.heap.size w wc))
                    case first =>
                      have H := HC12.out
                      clear HC12
                      by_cases c15 : ((rd_T27 l0 x25_2).f3) < 1
                      · rw [if_pos c15] at H
                        have c15b0 : decide (((rd_T27 l0 x25_2).f3) < 1) = true := decide_eq_true c15
                        clear c15
                        (first | rw [c15b0] | (simp only [i64_w, i32_w]; rw [c15b0]) | skip)
                        have H' := Aside0.mk H
                        clear H
                        have hcz16_0 : w13.cell? ⟨gb128, 0, none⟩ = some (.int .i64 0) := (blk_cell BK128.out 0).trans rfl
                        have hcz16_1 : w13.cell? ⟨gb128, 1, none⟩ = some (.string (⟨#[]⟩ : ByteArray)) := (blk_cell BK128.out 1).trans rfl
                        have hcz16_2 : w13.cell? ⟨gb128, 2, none⟩ = some (.int .i64 0) := (blk_cell BK128.out 2).trans rfl
                        have hcz16_3 : w13.cell? ⟨gb128, 3, none⟩ = some (.int .i64 0) := (blk_cell BK128.out 3).trans rfl
                        have hcz16_4 : w13.cell? ⟨gb128, 4, none⟩ = some (.int .i64 0) := (blk_cell BK128.out 4).trans rfl
                        have hfz16_0 := blk_frozen BK128.out 0
                        have hfz16_1 := blk_frozen BK128.out 1
                        have hfz16_2 := blk_frozen BK128.out 2
                        have hfz16_3 := blk_frozen BK128.out 3
                        have hfz16_4 := blk_frozen BK128.out 4
                        go_wp2
                        repeat (go_quiet (fail); try go_wp2)
                        go_meet
                        case rel => exact ⟨_, (true), (by first | rfl | (simp; done) | (simp [*]; done)), H', ⟨by have := HJ2.out; have := HK2.out; first | omega | exact Nat.le_refl _⟩, ⟨by (with_reducible repeat (first | refine blk_drewN ?_ _ | refine blk_drew ?_ | refine blk_alloc ?_ _)); refine blk_put (cs := #[.int .i64 ((rd_T27 l0 x25_2).f0), .string ((rd_T27 l0 x25_2).f1), .int .i64 ((rd_T27 l0 x25_2).f2), .int .i64 ((rd_T27 l0 x25_2).f3), .int .i64 0]) ?_ 4 _ rfl; (with_reducible repeat (first | refine blk_drewN ?_ _ | refine blk_drew ?_ | refine blk_alloc ?_ _)); refine blk_put (cs := #[.int .i64 ((rd_T27 l0 x25_2).f0), .string ((rd_T27 l0 x25_2).f1), .int .i64 ((rd_T27 l0 x25_2).f2), .int .i64 0, .int .i64 0]) ?_ 3 _ rfl; (with_reducible repeat (first | refine blk_drewN ?_ _ | refine blk_drew ?_ | refine blk_alloc ?_ _)); refine blk_put (cs := #[.int .i64 ((rd_T27 l0 x25_2).f0), .string ((rd_T27 l0 x25_2).f1), .int .i64 0, .int .i64 0, .int .i64 0]) ?_ 2 _ rfl; (with_reducible repeat (first | refine blk_drewN ?_ _ | refine blk_drew ?_ | refine blk_alloc ?_ _)); refine blk_put (cs := #[.int .i64 ((rd_T27 l0 x25_2).f0), .string (⟨#[]⟩ : ByteArray), .int .i64 0, .int .i64 0, .int .i64 0]) ?_ 1 _ rfl; (with_reducible repeat (first | refine blk_drewN ?_ _ | refine blk_drew ?_ | refine blk_alloc ?_ _)); refine blk_put (cs := #[.int .i64 0, .string (⟨#[]⟩ : ByteArray), .int .i64 0, .int .i64 0, .int .i64 0]) ?_ 0 _ rfl; (with_reducible repeat (first | refine blk_drewN ?_ _ | refine blk_drew ?_ | refine blk_alloc ?_ _)); exact BK128.out⟩, ⟨by repeat (first | (with_reducible first | exact HB.out | apply below_alloc | apply pw_below_drewN | apply below_drew1 | refine below_set ?_ GE128.out) | exact HB.out)⟩⟩
                      · rw [if_neg c15] at H
                        have c15b0 : decide (((rd_T27 l0 x25_2).f3) < 1) = false := decide_eq_false c15
                        clear c15
                        (first | rw [c15b0] | (simp only [i64_w, i32_w]; rw [c15b0]) | skip)
                        have H' := Aside0.mk H
                        clear H
                        have hcz17_0 : w13.cell? ⟨gb128, 0, none⟩ = some (.int .i64 0) := (blk_cell BK128.out 0).trans rfl
                        have hcz17_1 : w13.cell? ⟨gb128, 1, none⟩ = some (.string (⟨#[]⟩ : ByteArray)) := (blk_cell BK128.out 1).trans rfl
                        have hcz17_2 : w13.cell? ⟨gb128, 2, none⟩ = some (.int .i64 0) := (blk_cell BK128.out 2).trans rfl
                        have hcz17_3 : w13.cell? ⟨gb128, 3, none⟩ = some (.int .i64 0) := (blk_cell BK128.out 3).trans rfl
                        have hcz17_4 : w13.cell? ⟨gb128, 4, none⟩ = some (.int .i64 0) := (blk_cell BK128.out 4).trans rfl
                        have hfz17_0 := blk_frozen BK128.out 0
                        have hfz17_1 := blk_frozen BK128.out 1
                        have hfz17_2 := blk_frozen BK128.out 2
                        have hfz17_3 := blk_frozen BK128.out 3
                        have hfz17_4 := blk_frozen BK128.out 4
                        go_wp2
                        repeat (go_quiet (fail); try go_wp2)
                        go_meet
                        case rel => exact ⟨_, (decide (((rd_T27 l0 x25_2).f4) < 1)), (by first | rfl | (simp; done) | (simp [*]; done)), H', ⟨by have := HJ2.out; have := HK2.out; first | omega | exact Nat.le_refl _⟩, ⟨by (with_reducible repeat (first | refine blk_drewN ?_ _ | refine blk_drew ?_ | refine blk_alloc ?_ _)); refine blk_put (cs := #[.int .i64 ((rd_T27 l0 x25_2).f0), .string ((rd_T27 l0 x25_2).f1), .int .i64 ((rd_T27 l0 x25_2).f2), .int .i64 ((rd_T27 l0 x25_2).f3), .int .i64 0]) ?_ 4 _ rfl; (with_reducible repeat (first | refine blk_drewN ?_ _ | refine blk_drew ?_ | refine blk_alloc ?_ _)); refine blk_put (cs := #[.int .i64 ((rd_T27 l0 x25_2).f0), .string ((rd_T27 l0 x25_2).f1), .int .i64 ((rd_T27 l0 x25_2).f2), .int .i64 0, .int .i64 0]) ?_ 3 _ rfl; (with_reducible repeat (first | refine blk_drewN ?_ _ | refine blk_drew ?_ | refine blk_alloc ?_ _)); refine blk_put (cs := #[.int .i64 ((rd_T27 l0 x25_2).f0), .string ((rd_T27 l0 x25_2).f1), .int .i64 0, .int .i64 0, .int .i64 0]) ?_ 2 _ rfl; (with_reducible repeat (first | refine blk_drewN ?_ _ | refine blk_drew ?_ | refine blk_alloc ?_ _)); refine blk_put (cs := #[.int .i64 ((rd_T27 l0 x25_2).f0), .string (⟨#[]⟩ : ByteArray), .int .i64 0, .int .i64 0, .int .i64 0]) ?_ 1 _ rfl; (with_reducible repeat (first | refine blk_drewN ?_ _ | refine blk_drew ?_ | refine blk_alloc ?_ _)); refine blk_put (cs := #[.int .i64 0, .string (⟨#[]⟩ : ByteArray), .int .i64 0, .int .i64 0, .int .i64 0]) ?_ 0 _ rfl; (with_reducible repeat (first | refine blk_drewN ?_ _ | refine blk_drew ?_ | refine blk_alloc ?_ _)); exact BK128.out⟩, ⟨by repeat (first | (with_reducible first | exact HB.out | apply below_alloc | apply pw_below_drewN | apply below_drew1 | refine below_set ?_ GE128.out) | exact HB.out)⟩⟩
                    case rest =>
                      clear HC12
                      try clear c1
                      try clear p1
                      try clear q1
                      try clear hx1
                      try clear c2
                      try clear c2b0
                      try clear c2b1
                      try clear p2
                      try clear c4
                      try clear c4b0
                      try clear c4b1
                      try clear c4b2
                      try clear c5
                      try clear c6
                      try clear c6b0
                      try clear p6
                      try clear c7
                      try clear c7b0
                      try clear c8
                      try clear c9
                      try clear c9b0
                      try clear c10
                      try clear c10b0
                      try clear c11
                      try clear c11b0
                      try clear p12
                      try clear q12
                      try clear hx12
                      try clear c15
                      try clear c15b0
                      try clear hcz14_0
                      try clear hcz14_1
                      try clear hcz14_2
                      try clear hcz14_3
                      try clear hcz14_4
                      try clear hcz16_0
                      try clear hcz16_1
                      try clear hcz16_2
                      try clear hcz16_3
                      try clear hcz16_4
                      try clear hcz17_0
                      try clear hcz17_1
                      try clear hcz17_2
                      try clear hcz17_3
                      try clear hcz17_4
                      try clear hfz14_0
                      try clear hfz14_1
                      try clear hfz14_2
                      try clear hfz14_3
                      try clear hfz14_4
                      try clear hfz16_0
                      try clear hfz16_1
                      try clear hfz16_2
                      try clear hfz16_3
                      try clear hfz16_4
                      try clear hfz17_0
                      try clear hfz17_1
                      try clear hfz17_2
                      try clear hfz17_3
                      try clear hfz17_4
                      try clear hx126_0
                      try clear hx126_1
                      try clear hx126_2
                      try clear hx126_3
                      try clear hx126_4
                      try clear hx127_0
                      try clear hx127_1
                      try clear hx127_2
                      try clear hx127_3
                      try clear hx127_4
                      try clear p1
                      try clear p126
                      try clear p127
                      try clear p2
                      try clear p6
                      try clear q1
                      try clear q126
                      try clear q127
                      obtain ⟨kq, x37_11, rfl, HA, HJ11, BK128, HB⟩ := hcut
                      cases kq with
                      | zero => exact absurd HA.out (by simp [provenancelaw1_tokensError.j2])
                      | succ kj11 =>
                        have H := HA.out
                        clear HA
                        simp only [provenancelaw1_tokensError.j2] at H
                        by_cases c18 : x37_11 = true
                        · subst c18
                          have H1 : (some 4) = some r := by rw [if_pos rfl] at H; exact H
                          clear H
                          have H := H1
                          clear H1
                          obtain rfl := Option.some.inj H
                          go_wp2
                          repeat (go_quiet (fail); try go_wp2)
                          go_ret
                          exact ⟨by first | rfl | (simp [errW_none, errW_some] <;> rfl) | (simp [*, errW_none, errW_some] <;> rfl), by repeat (first | (with_reducible first | exact HB.out | apply below_alloc | apply pw_below_drewN | apply below_drew1 | refine below_set ?_ GE128.out) | exact HB.out)⟩
                        · replace c18 := Bool.eq_false_iff.mpr c18
                          subst c18
                          have H1 : (if ((rd_T27 l0 x25_2).f0) ≥ 0 then (if ((rd_T27 l0 x25_2).f0) ≤ 5 then (if x25_2 > 0 then (if 0 ≤ (wrap64 (x25_2 - 1)) then (if (wrap64 (x25_2 - 1)) < (l0.length : Int) then (if ((rd_T27 l0 x25_2).f3) < ((rd_T27 l0 (wrap64 (x25_2 - 1))).f3) then (if ((rd_T27 l0 x25_2).f0) = 9 then (if x25_2 < (wrap64 ((l0.length : Int) - 1)) then (some 3) else (some 3)) else (some 3)) else (if ((rd_T27 l0 x25_2).f3) = ((rd_T27 l0 (wrap64 (x25_2 - 1))).f3) then (if ((rd_T27 l0 x25_2).f0) = 9 then (if x25_2 < (wrap64 ((l0.length : Int) - 1)) then (some 3) else (if ((rd_T27 l0 x25_2).f4) < ((rd_T27 l0 (wrap64 (x25_2 - 1))).f4) then (some 3) else (provenancelaw1_tokensError.l0 kj11 l0 l0 (l0.length : Int) (wrap64 (x25_2 + 1))))) else (if ((rd_T27 l0 x25_2).f4) < ((rd_T27 l0 (wrap64 (x25_2 - 1))).f4) then (some 3) else (provenancelaw1_tokensError.l0 kj11 l0 l0 (l0.length : Int) (wrap64 (x25_2 + 1))))) else (if ((rd_T27 l0 x25_2).f0) = 9 then (if x25_2 < (wrap64 ((l0.length : Int) - 1)) then (some 3) else (provenancelaw1_tokensError.l0 kj11 l0 l0 (l0.length : Int) (wrap64 (x25_2 + 1)))) else (provenancelaw1_tokensError.l0 kj11 l0 l0 (l0.length : Int) (wrap64 (x25_2 + 1)))))) else (none)) else (none)) else (if ((rd_T27 l0 x25_2).f0) = 9 then (if x25_2 < (wrap64 ((l0.length : Int) - 1)) then (some 3) else (provenancelaw1_tokensError.l0 kj11 l0 l0 (l0.length : Int) (wrap64 (x25_2 + 1)))) else (provenancelaw1_tokensError.l0 kj11 l0 l0 (l0.length : Int) (wrap64 (x25_2 + 1))))) else (if x25_2 > 0 then (if 0 ≤ (wrap64 (x25_2 - 1)) then (if (wrap64 (x25_2 - 1)) < (l0.length : Int) then (if ((rd_T27 l0 x25_2).f3) < ((rd_T27 l0 (wrap64 (x25_2 - 1))).f3) then (if ((rd_T27 l0 x25_2).f0) = 9 then (if x25_2 < (wrap64 ((l0.length : Int) - 1)) then (some 3) else (some 3)) else (some 3)) else (if ((rd_T27 l0 x25_2).f3) = ((rd_T27 l0 (wrap64 (x25_2 - 1))).f3) then (if ((rd_T27 l0 x25_2).f0) = 9 then (if x25_2 < (wrap64 ((l0.length : Int) - 1)) then (some 3) else (if ((rd_T27 l0 x25_2).f4) < ((rd_T27 l0 (wrap64 (x25_2 - 1))).f4) then (some 3) else (provenancelaw1_tokensError.l0 kj11 l0 l0 (l0.length : Int) (wrap64 (x25_2 + 1))))) else (some 3)) else (if ((rd_T27 l0 x25_2).f0) = 9 then (if x25_2 < (wrap64 ((l0.length : Int) - 1)) then (some 3) else (provenancelaw1_tokensError.l0 kj11 l0 l0 (l0.length : Int) (wrap64 (x25_2 + 1)))) else (some 3)))) else (none)) else (none)) else (if ((rd_T27 l0 x25_2).f0) = 9 then (if x25_2 < (wrap64 ((l0.length : Int) - 1)) then (some 3) else (provenancelaw1_tokensError.l0 kj11 l0 l0 (l0.length : Int) (wrap64 (x25_2 + 1)))) else (some 3)))) else (if x25_2 > 0 then (if 0 ≤ (wrap64 (x25_2 - 1)) then (if (wrap64 (x25_2 - 1)) < (l0.length : Int) then (if ((rd_T27 l0 x25_2).f3) < ((rd_T27 l0 (wrap64 (x25_2 - 1))).f3) then (if ((rd_T27 l0 x25_2).f0) = 9 then (if x25_2 < (wrap64 ((l0.length : Int) - 1)) then (some 3) else (some 3)) else (some 3)) else (if ((rd_T27 l0 x25_2).f3) = ((rd_T27 l0 (wrap64 (x25_2 - 1))).f3) then (if ((rd_T27 l0 x25_2).f0) = 9 then (if x25_2 < (wrap64 ((l0.length : Int) - 1)) then (some 3) else (if ((rd_T27 l0 x25_2).f4) < ((rd_T27 l0 (wrap64 (x25_2 - 1))).f4) then (some 3) else (provenancelaw1_tokensError.l0 kj11 l0 l0 (l0.length : Int) (wrap64 (x25_2 + 1))))) else (some 3)) else (if ((rd_T27 l0 x25_2).f0) = 9 then (if x25_2 < (wrap64 ((l0.length : Int) - 1)) then (some 3) else (provenancelaw1_tokensError.l0 kj11 l0 l0 (l0.length : Int) (wrap64 (x25_2 + 1)))) else (some 3)))) else (none)) else (none)) else (if ((rd_T27 l0 x25_2).f0) = 9 then (if x25_2 < (wrap64 ((l0.length : Int) - 1)) then (some 3) else (provenancelaw1_tokensError.l0 kj11 l0 l0 (l0.length : Int) (wrap64 (x25_2 + 1)))) else (some 3)))) = some r := by rw [if_neg (show ¬ (false = true) by decide)] at H; exact H
                          clear H
                          have H := H1
                          clear H1
                          by_cases c19 : ((rd_T27 l0 x25_2).f0) ≥ 0
                          · rw [if_pos c19] at H
                            have c19b0 : decide (0 ≤ ((rd_T27 l0 x25_2).f0)) = true := decide_eq_true c19
                            clear c19
                            by_cases c20 : ((rd_T27 l0 x25_2).f0) ≤ 5
                            · rw [if_pos c20] at H
                              have c20b0 : decide (((rd_T27 l0 x25_2).f0) ≤ 5) = true := decide_eq_true c20
                              clear c20
                              by_cases c21 : x25_2 > 0
                              · rw [if_pos c21] at H
                                have c21b0 : decide (0 < x25_2) = true := decide_eq_true c21
                                clear c21
                                obtain ⟨ji22, hji22⟩ : ∃ j_ : Int, (wrap64 (x25_2 - 1)) = j_ := ⟨_, rfl⟩
                                replace H : (if 0 ≤ (ji22) then (if (ji22) < (l0.length : Int) then (if ((rd_T27 l0 x25_2).f3) < ((rd_T27 l0 (ji22)).f3) then (if ((rd_T27 l0 x25_2).f0) = 9 then (if x25_2 < (wrap64 ((l0.length : Int) - 1)) then (some 3) else (some 3)) else (some 3)) else (if ((rd_T27 l0 x25_2).f3) = ((rd_T27 l0 (ji22)).f3) then (if ((rd_T27 l0 x25_2).f0) = 9 then (if x25_2 < (wrap64 ((l0.length : Int) - 1)) then (some 3) else (if ((rd_T27 l0 x25_2).f4) < ((rd_T27 l0 (ji22)).f4) then (some 3) else (provenancelaw1_tokensError.l0 kj11 l0 l0 (l0.length : Int) (wrap64 (x25_2 + 1))))) else (if ((rd_T27 l0 x25_2).f4) < ((rd_T27 l0 (ji22)).f4) then (some 3) else (provenancelaw1_tokensError.l0 kj11 l0 l0 (l0.length : Int) (wrap64 (x25_2 + 1))))) else (if ((rd_T27 l0 x25_2).f0) = 9 then (if x25_2 < (wrap64 ((l0.length : Int) - 1)) then (some 3) else (provenancelaw1_tokensError.l0 kj11 l0 l0 (l0.length : Int) (wrap64 (x25_2 + 1)))) else (provenancelaw1_tokensError.l0 kj11 l0 l0 (l0.length : Int) (wrap64 (x25_2 + 1)))))) else (none)) else (none)) = some r := by first | (rw [hji22] at H; exact H) | (simp only [hji22] at H ⊢; exact H)
                                have hji22w : (IntKind.i64.wrap (x25_2 - 1)) = ji22 := (i64_w _).trans hji22
                                by_cases c23 : 0 ≤ (ji22)
                                · rw [if_pos c23] at H
                                  have c23b0 : decide (0 ≤ (ji22)) = true := decide_eq_true c23
                                  clear c23
                                  by_cases c24 : (ji22) < (l0.length : Int)
                                  · rw [if_pos c24] at H
                                    have c24b0 : decide ((ji22) < (l0.length : Int)) = true := decide_eq_true c24
                                    clear c24
                                    by_cases c25 : ((rd_T27 l0 x25_2).f3) < ((rd_T27 l0 (ji22)).f3)
                                    · rw [if_pos c25] at H
                                      have c25b0 : decide (((rd_T27 l0 x25_2).f3) < ((rd_T27 l0 (ji22)).f3)) = true := decide_eq_true c25
                                      clear c25
                                      by_cases c26 : ((rd_T27 l0 x25_2).f0) = 9
                                      · rw [if_pos c26] at H
                                        have c26b0 : (((rd_T27 l0 x25_2).f0) == 9) = true := beq_iff_eq.mpr c26
                                        have c26b1 : (((rd_T27 l0 x25_2).f0) != 9) = false := bne_eq_false_iff_eq.mpr c26
                                        clear c26
                                        by_cases c27 : x25_2 < (wrap64 ((l0.length : Int) - 1))
                                        · rw [if_pos c27] at H
                                          have c27b0 : decide (x25_2 < (wrap64 ((l0.length : Int) - 1))) = true := decide_eq_true c27
                                          clear c27
                                          obtain rfl := Option.some.inj H
                                          have hcz28_0 : wc.cell? ⟨gb128, 0, none⟩ = some (.int .i64 ((rd_T27 l0 x25_2).f0)) := (blk_cell BK128.out 0).trans rfl
                                          have hcz28_1 : wc.cell? ⟨gb128, 1, none⟩ = some (.string ((rd_T27 l0 x25_2).f1)) := (blk_cell BK128.out 1).trans rfl
                                          have hcz28_2 : wc.cell? ⟨gb128, 2, none⟩ = some (.int .i64 ((rd_T27 l0 x25_2).f2)) := (blk_cell BK128.out 2).trans rfl
                                          have hcz28_3 : wc.cell? ⟨gb128, 3, none⟩ = some (.int .i64 ((rd_T27 l0 x25_2).f3)) := (blk_cell BK128.out 3).trans rfl
                                          have hcz28_4 : wc.cell? ⟨gb128, 4, none⟩ = some (.int .i64 ((rd_T27 l0 x25_2).f4)) := (blk_cell BK128.out 4).trans rfl
                                          have hfz28_0 := blk_frozen BK128.out 0
                                          have hfz28_1 := blk_frozen BK128.out 1
                                          have hfz28_2 := blk_frozen BK128.out 2
                                          have hfz28_3 := blk_frozen BK128.out 3
                                          have hfz28_4 := blk_frozen BK128.out 4
                                          have p129 : 0 ≤ ((ji22) : Int) := of_decide_eq_true (by first | (with_reducible assumption) | assumption)
                                          have q129 : (ji22) < (l0.length : Int) := of_decide_eq_true (by first | (with_reducible assumption) | assumption)
                                          obtain ⟨ad129, e129, hx129_0, hx129_1, hx129_2, hx129_3, hx129_4⟩ := at_T27 HR0.out (ji22) p129 q129
                                          obtain rfl : ad127 = ad129 := (by injection e129)
                                          replace hx129_0 := (HB.out.cell (World.block_lt_of_cell? w _ hx129_0)).trans hx129_0
                                          replace hx129_1 := (HB.out.cell (World.block_lt_of_cell? w _ hx129_1)).trans hx129_1
                                          replace hx129_2 := (HB.out.cell (World.block_lt_of_cell? w _ hx129_2)).trans hx129_2
                                          replace hx129_3 := (HB.out.cell (World.block_lt_of_cell? w _ hx129_3)).trans hx129_3
                                          replace hx129_4 := (HB.out.cell (World.block_lt_of_cell? w _ hx129_4)).trans hx129_4
                                          replace p129 := eq_true p129
                                          replace q129 := eq_true q129
                                          go_wp2
                                          repeat (go_quiet (fail); try go_wp2)
                                          go_ret
                                          exact ⟨by first | rfl | (simp [errW_none, errW_some] <;> rfl) | (simp only [← hji22]; first | rfl | (simp [errW_none, errW_some] <;> rfl)) | (simp [*, errW_none, errW_some] <;> rfl), by repeat (first | (with_reducible first | exact HB.out | apply below_alloc | apply pw_below_drewN | apply below_drew1 | refine below_set ?_ GE128.out) | exact HB.out)⟩
                                        · rw [if_neg c27] at H
                                          have c27b0 : decide (x25_2 < (wrap64 ((l0.length : Int) - 1))) = false := decide_eq_false c27
                                          clear c27
                                          obtain rfl := Option.some.inj H
                                          have hcz29_0 : wc.cell? ⟨gb128, 0, none⟩ = some (.int .i64 ((rd_T27 l0 x25_2).f0)) := (blk_cell BK128.out 0).trans rfl
                                          have hcz29_1 : wc.cell? ⟨gb128, 1, none⟩ = some (.string ((rd_T27 l0 x25_2).f1)) := (blk_cell BK128.out 1).trans rfl
                                          have hcz29_2 : wc.cell? ⟨gb128, 2, none⟩ = some (.int .i64 ((rd_T27 l0 x25_2).f2)) := (blk_cell BK128.out 2).trans rfl
                                          have hcz29_3 : wc.cell? ⟨gb128, 3, none⟩ = some (.int .i64 ((rd_T27 l0 x25_2).f3)) := (blk_cell BK128.out 3).trans rfl
                                          have hcz29_4 : wc.cell? ⟨gb128, 4, none⟩ = some (.int .i64 ((rd_T27 l0 x25_2).f4)) := (blk_cell BK128.out 4).trans rfl
                                          have hfz29_0 := blk_frozen BK128.out 0
                                          have hfz29_1 := blk_frozen BK128.out 1
                                          have hfz29_2 := blk_frozen BK128.out 2
                                          have hfz29_3 := blk_frozen BK128.out 3
                                          have hfz29_4 := blk_frozen BK128.out 4
                                          have p129 : 0 ≤ ((ji22) : Int) := of_decide_eq_true (by first | (with_reducible assumption) | assumption)
                                          have q129 : (ji22) < (l0.length : Int) := of_decide_eq_true (by first | (with_reducible assumption) | assumption)
                                          obtain ⟨ad129, e129, hx129_0, hx129_1, hx129_2, hx129_3, hx129_4⟩ := at_T27 HR0.out (ji22) p129 q129
                                          obtain rfl : ad127 = ad129 := (by injection e129)
                                          replace hx129_0 := (HB.out.cell (World.block_lt_of_cell? w _ hx129_0)).trans hx129_0
                                          replace hx129_1 := (HB.out.cell (World.block_lt_of_cell? w _ hx129_1)).trans hx129_1
                                          replace hx129_2 := (HB.out.cell (World.block_lt_of_cell? w _ hx129_2)).trans hx129_2
                                          replace hx129_3 := (HB.out.cell (World.block_lt_of_cell? w _ hx129_3)).trans hx129_3
                                          replace hx129_4 := (HB.out.cell (World.block_lt_of_cell? w _ hx129_4)).trans hx129_4
                                          replace p129 := eq_true p129
                                          replace q129 := eq_true q129
                                          go_wp2
                                          repeat (go_quiet (fail); try go_wp2)
                                          go_ret
                                          exact ⟨by first | rfl | (simp [errW_none, errW_some] <;> rfl) | (simp only [← hji22]; first | rfl | (simp [errW_none, errW_some] <;> rfl)) | (simp [*, errW_none, errW_some] <;> rfl), by repeat (first | (with_reducible first | exact HB.out | apply below_alloc | apply pw_below_drewN | apply below_drew1 | refine below_set ?_ GE128.out) | exact HB.out)⟩
                                      · rw [if_neg c26] at H
                                        have c26b0 : (((rd_T27 l0 x25_2).f0) == 9) = false := beq_eq_false_iff_ne.mpr c26
                                        have c26b1 : (((rd_T27 l0 x25_2).f0) != 9) = true := bne_iff_ne.mpr c26
                                        obtain rfl := Option.some.inj H
                                        have hcz30_0 : wc.cell? ⟨gb128, 0, none⟩ = some (.int .i64 ((rd_T27 l0 x25_2).f0)) := (blk_cell BK128.out 0).trans rfl
                                        have hcz30_1 : wc.cell? ⟨gb128, 1, none⟩ = some (.string ((rd_T27 l0 x25_2).f1)) := (blk_cell BK128.out 1).trans rfl
                                        have hcz30_2 : wc.cell? ⟨gb128, 2, none⟩ = some (.int .i64 ((rd_T27 l0 x25_2).f2)) := (blk_cell BK128.out 2).trans rfl
                                        have hcz30_3 : wc.cell? ⟨gb128, 3, none⟩ = some (.int .i64 ((rd_T27 l0 x25_2).f3)) := (blk_cell BK128.out 3).trans rfl
                                        have hcz30_4 : wc.cell? ⟨gb128, 4, none⟩ = some (.int .i64 ((rd_T27 l0 x25_2).f4)) := (blk_cell BK128.out 4).trans rfl
                                        have hfz30_0 := blk_frozen BK128.out 0
                                        have hfz30_1 := blk_frozen BK128.out 1
                                        have hfz30_2 := blk_frozen BK128.out 2
                                        have hfz30_3 := blk_frozen BK128.out 3
                                        have hfz30_4 := blk_frozen BK128.out 4
                                        have p129 : 0 ≤ ((ji22) : Int) := of_decide_eq_true (by first | (with_reducible assumption) | assumption)
                                        have q129 : (ji22) < (l0.length : Int) := of_decide_eq_true (by first | (with_reducible assumption) | assumption)
                                        obtain ⟨ad129, e129, hx129_0, hx129_1, hx129_2, hx129_3, hx129_4⟩ := at_T27 HR0.out (ji22) p129 q129
                                        obtain rfl : ad127 = ad129 := (by injection e129)
                                        replace hx129_0 := (HB.out.cell (World.block_lt_of_cell? w _ hx129_0)).trans hx129_0
                                        replace hx129_1 := (HB.out.cell (World.block_lt_of_cell? w _ hx129_1)).trans hx129_1
                                        replace hx129_2 := (HB.out.cell (World.block_lt_of_cell? w _ hx129_2)).trans hx129_2
                                        replace hx129_3 := (HB.out.cell (World.block_lt_of_cell? w _ hx129_3)).trans hx129_3
                                        replace hx129_4 := (HB.out.cell (World.block_lt_of_cell? w _ hx129_4)).trans hx129_4
                                        replace p129 := eq_true p129
                                        replace q129 := eq_true q129
                                        go_wp2
                                        repeat (go_quiet (fail); try go_wp2)
                                        go_ret
                                        exact ⟨by first | rfl | (simp [errW_none, errW_some] <;> rfl) | (simp only [← hji22]; first | rfl | (simp [errW_none, errW_some] <;> rfl)) | (simp [*, errW_none, errW_some] <;> rfl), by repeat (first | (with_reducible first | exact HB.out | apply below_alloc | apply pw_below_drewN | apply below_drew1 | refine below_set ?_ GE128.out) | exact HB.out)⟩
                                    · rw [if_neg c25] at H
                                      have c25b0 : decide (((rd_T27 l0 x25_2).f3) < ((rd_T27 l0 (ji22)).f3)) = false := decide_eq_false c25
                                      clear c25
                                      by_cases c31 : ((rd_T27 l0 x25_2).f3) = ((rd_T27 l0 (ji22)).f3)
                                      · rw [if_pos c31] at H
                                        have c31b0 : (((rd_T27 l0 x25_2).f3) == ((rd_T27 l0 (ji22)).f3)) = true := beq_iff_eq.mpr c31
                                        have c31b1 : (((rd_T27 l0 x25_2).f3) != ((rd_T27 l0 (ji22)).f3)) = false := bne_eq_false_iff_eq.mpr c31
                                        clear c31
                                        by_cases c32 : ((rd_T27 l0 x25_2).f0) = 9
                                        · rw [if_pos c32] at H
                                          have c32b0 : (((rd_T27 l0 x25_2).f0) == 9) = true := beq_iff_eq.mpr c32
                                          have c32b1 : (((rd_T27 l0 x25_2).f0) != 9) = false := bne_eq_false_iff_eq.mpr c32
                                          clear c32
                                          by_cases c33 : x25_2 < (wrap64 ((l0.length : Int) - 1))
                                          · rw [if_pos c33] at H
                                            have c33b0 : decide (x25_2 < (wrap64 ((l0.length : Int) - 1))) = true := decide_eq_true c33
                                            clear c33
                                            obtain rfl := Option.some.inj H
                                            have hcz34_0 : wc.cell? ⟨gb128, 0, none⟩ = some (.int .i64 ((rd_T27 l0 x25_2).f0)) := (blk_cell BK128.out 0).trans rfl
                                            have hcz34_1 : wc.cell? ⟨gb128, 1, none⟩ = some (.string ((rd_T27 l0 x25_2).f1)) := (blk_cell BK128.out 1).trans rfl
                                            have hcz34_2 : wc.cell? ⟨gb128, 2, none⟩ = some (.int .i64 ((rd_T27 l0 x25_2).f2)) := (blk_cell BK128.out 2).trans rfl
                                            have hcz34_3 : wc.cell? ⟨gb128, 3, none⟩ = some (.int .i64 ((rd_T27 l0 x25_2).f3)) := (blk_cell BK128.out 3).trans rfl
                                            have hcz34_4 : wc.cell? ⟨gb128, 4, none⟩ = some (.int .i64 ((rd_T27 l0 x25_2).f4)) := (blk_cell BK128.out 4).trans rfl
                                            have hfz34_0 := blk_frozen BK128.out 0
                                            have hfz34_1 := blk_frozen BK128.out 1
                                            have hfz34_2 := blk_frozen BK128.out 2
                                            have hfz34_3 := blk_frozen BK128.out 3
                                            have hfz34_4 := blk_frozen BK128.out 4
                                            have p129 : 0 ≤ ((ji22) : Int) := of_decide_eq_true (by first | (with_reducible assumption) | assumption)
                                            have q129 : (ji22) < (l0.length : Int) := of_decide_eq_true (by first | (with_reducible assumption) | assumption)
                                            obtain ⟨ad129, e129, hx129_0, hx129_1, hx129_2, hx129_3, hx129_4⟩ := at_T27 HR0.out (ji22) p129 q129
                                            obtain rfl : ad127 = ad129 := (by injection e129)
                                            replace hx129_0 := (HB.out.cell (World.block_lt_of_cell? w _ hx129_0)).trans hx129_0
                                            replace hx129_1 := (HB.out.cell (World.block_lt_of_cell? w _ hx129_1)).trans hx129_1
                                            replace hx129_2 := (HB.out.cell (World.block_lt_of_cell? w _ hx129_2)).trans hx129_2
                                            replace hx129_3 := (HB.out.cell (World.block_lt_of_cell? w _ hx129_3)).trans hx129_3
                                            replace hx129_4 := (HB.out.cell (World.block_lt_of_cell? w _ hx129_4)).trans hx129_4
                                            replace p129 := eq_true p129
                                            replace q129 := eq_true q129
                                            have p130 : 0 ≤ ((ji22) : Int) := of_decide_eq_true (by first | (with_reducible assumption) | assumption)
                                            have q130 : (ji22) < (l0.length : Int) := of_decide_eq_true (by first | (with_reducible assumption) | assumption)
                                            obtain ⟨ad130, e130, hx130_0, hx130_1, hx130_2, hx130_3, hx130_4⟩ := at_T27 HR0.out (ji22) p130 q130
                                            obtain rfl : ad127 = ad130 := (by injection e130)
                                            replace hx130_0 := (HB.out.cell (World.block_lt_of_cell? w _ hx130_0)).trans hx130_0
                                            replace hx130_1 := (HB.out.cell (World.block_lt_of_cell? w _ hx130_1)).trans hx130_1
                                            replace hx130_2 := (HB.out.cell (World.block_lt_of_cell? w _ hx130_2)).trans hx130_2
                                            replace hx130_3 := (HB.out.cell (World.block_lt_of_cell? w _ hx130_3)).trans hx130_3
                                            replace hx130_4 := (HB.out.cell (World.block_lt_of_cell? w _ hx130_4)).trans hx130_4
                                            replace p130 := eq_true p130
                                            replace q130 := eq_true q130
                                            have p131 : 0 ≤ ((ji22) : Int) := of_decide_eq_true (by first | (with_reducible assumption) | assumption)
                                            have q131 : (ji22) < (l0.length : Int) := of_decide_eq_true (by first | (with_reducible assumption) | assumption)
                                            obtain ⟨ad131, e131, hx131_0, hx131_1, hx131_2, hx131_3, hx131_4⟩ := at_T27 HR0.out (ji22) p131 q131
                                            obtain rfl : ad127 = ad131 := (by injection e131)
                                            replace hx131_0 := (HB.out.cell (World.block_lt_of_cell? w _ hx131_0)).trans hx131_0
                                            replace hx131_1 := (HB.out.cell (World.block_lt_of_cell? w _ hx131_1)).trans hx131_1
                                            replace hx131_2 := (HB.out.cell (World.block_lt_of_cell? w _ hx131_2)).trans hx131_2
                                            replace hx131_3 := (HB.out.cell (World.block_lt_of_cell? w _ hx131_3)).trans hx131_3
                                            replace hx131_4 := (HB.out.cell (World.block_lt_of_cell? w _ hx131_4)).trans hx131_4
                                            replace p131 := eq_true p131
                                            replace q131 := eq_true q131
                                            go_wp2
                                            repeat (go_quiet (fail); try go_wp2)
                                            go_ret
                                            exact ⟨by first | rfl | (simp [errW_none, errW_some] <;> rfl) | (simp only [← hji22]; first | rfl | (simp [errW_none, errW_some] <;> rfl)) | (simp [*, errW_none, errW_some] <;> rfl), by repeat (first | (with_reducible first | exact HB.out | apply below_alloc | apply pw_below_drewN | apply below_drew1 | refine below_set ?_ GE128.out) | exact HB.out)⟩
                                          · rw [if_neg c33] at H
                                            have c33b0 : decide (x25_2 < (wrap64 ((l0.length : Int) - 1))) = false := decide_eq_false c33
                                            clear c33
                                            by_cases c35 : ((rd_T27 l0 x25_2).f4) < ((rd_T27 l0 (ji22)).f4)
                                            · rw [if_pos c35] at H
                                              have c35b0 : decide (((rd_T27 l0 x25_2).f4) < ((rd_T27 l0 (ji22)).f4)) = true := decide_eq_true c35
                                              clear c35
                                              obtain rfl := Option.some.inj H
                                              have hcz36_0 : wc.cell? ⟨gb128, 0, none⟩ = some (.int .i64 ((rd_T27 l0 x25_2).f0)) := (blk_cell BK128.out 0).trans rfl
                                              have hcz36_1 : wc.cell? ⟨gb128, 1, none⟩ = some (.string ((rd_T27 l0 x25_2).f1)) := (blk_cell BK128.out 1).trans rfl
                                              have hcz36_2 : wc.cell? ⟨gb128, 2, none⟩ = some (.int .i64 ((rd_T27 l0 x25_2).f2)) := (blk_cell BK128.out 2).trans rfl
                                              have hcz36_3 : wc.cell? ⟨gb128, 3, none⟩ = some (.int .i64 ((rd_T27 l0 x25_2).f3)) := (blk_cell BK128.out 3).trans rfl
                                              have hcz36_4 : wc.cell? ⟨gb128, 4, none⟩ = some (.int .i64 ((rd_T27 l0 x25_2).f4)) := (blk_cell BK128.out 4).trans rfl
                                              have hfz36_0 := blk_frozen BK128.out 0
                                              have hfz36_1 := blk_frozen BK128.out 1
                                              have hfz36_2 := blk_frozen BK128.out 2
                                              have hfz36_3 := blk_frozen BK128.out 3
                                              have hfz36_4 := blk_frozen BK128.out 4
                                              have p129 : 0 ≤ ((ji22) : Int) := of_decide_eq_true (by first | (with_reducible assumption) | assumption)
                                              have q129 : (ji22) < (l0.length : Int) := of_decide_eq_true (by first | (with_reducible assumption) | assumption)
                                              obtain ⟨ad129, e129, hx129_0, hx129_1, hx129_2, hx129_3, hx129_4⟩ := at_T27 HR0.out (ji22) p129 q129
                                              obtain rfl : ad127 = ad129 := (by injection e129)
                                              replace hx129_0 := (HB.out.cell (World.block_lt_of_cell? w _ hx129_0)).trans hx129_0
                                              replace hx129_1 := (HB.out.cell (World.block_lt_of_cell? w _ hx129_1)).trans hx129_1
                                              replace hx129_2 := (HB.out.cell (World.block_lt_of_cell? w _ hx129_2)).trans hx129_2
                                              replace hx129_3 := (HB.out.cell (World.block_lt_of_cell? w _ hx129_3)).trans hx129_3
                                              replace hx129_4 := (HB.out.cell (World.block_lt_of_cell? w _ hx129_4)).trans hx129_4
                                              replace p129 := eq_true p129
                                              replace q129 := eq_true q129
                                              have p130 : 0 ≤ ((ji22) : Int) := of_decide_eq_true (by first | (with_reducible assumption) | assumption)
                                              have q130 : (ji22) < (l0.length : Int) := of_decide_eq_true (by first | (with_reducible assumption) | assumption)
                                              obtain ⟨ad130, e130, hx130_0, hx130_1, hx130_2, hx130_3, hx130_4⟩ := at_T27 HR0.out (ji22) p130 q130
                                              obtain rfl : ad127 = ad130 := (by injection e130)
                                              replace hx130_0 := (HB.out.cell (World.block_lt_of_cell? w _ hx130_0)).trans hx130_0
                                              replace hx130_1 := (HB.out.cell (World.block_lt_of_cell? w _ hx130_1)).trans hx130_1
                                              replace hx130_2 := (HB.out.cell (World.block_lt_of_cell? w _ hx130_2)).trans hx130_2
                                              replace hx130_3 := (HB.out.cell (World.block_lt_of_cell? w _ hx130_3)).trans hx130_3
                                              replace hx130_4 := (HB.out.cell (World.block_lt_of_cell? w _ hx130_4)).trans hx130_4
                                              replace p130 := eq_true p130
                                              replace q130 := eq_true q130
                                              have p131 : 0 ≤ ((ji22) : Int) := of_decide_eq_true (by first | (with_reducible assumption) | assumption)
                                              have q131 : (ji22) < (l0.length : Int) := of_decide_eq_true (by first | (with_reducible assumption) | assumption)
                                              obtain ⟨ad131, e131, hx131_0, hx131_1, hx131_2, hx131_3, hx131_4⟩ := at_T27 HR0.out (ji22) p131 q131
                                              obtain rfl : ad127 = ad131 := (by injection e131)
                                              replace hx131_0 := (HB.out.cell (World.block_lt_of_cell? w _ hx131_0)).trans hx131_0
                                              replace hx131_1 := (HB.out.cell (World.block_lt_of_cell? w _ hx131_1)).trans hx131_1
                                              replace hx131_2 := (HB.out.cell (World.block_lt_of_cell? w _ hx131_2)).trans hx131_2
                                              replace hx131_3 := (HB.out.cell (World.block_lt_of_cell? w _ hx131_3)).trans hx131_3
                                              replace hx131_4 := (HB.out.cell (World.block_lt_of_cell? w _ hx131_4)).trans hx131_4
                                              replace p131 := eq_true p131
                                              replace q131 := eq_true q131
                                              go_wp2
                                              repeat (go_quiet (fail); try go_wp2)
                                              go_ret
                                              exact ⟨by first | rfl | (simp [errW_none, errW_some] <;> rfl) | (simp only [← hji22]; first | rfl | (simp [errW_none, errW_some] <;> rfl)) | (simp [*, errW_none, errW_some] <;> rfl), by repeat (first | (with_reducible first | exact HB.out | apply below_alloc | apply pw_below_drewN | apply below_drew1 | refine below_set ?_ GE128.out) | exact HB.out)⟩
                                            · rw [if_neg c35] at H
                                              have c35b0 : decide (((rd_T27 l0 x25_2).f4) < ((rd_T27 l0 (ji22)).f4)) = false := decide_eq_false c35
                                              clear c35
                                              have H' := Aside0.mk H
                                              clear H
                                              have hcz37_0 : wc.cell? ⟨gb128, 0, none⟩ = some (.int .i64 ((rd_T27 l0 x25_2).f0)) := (blk_cell BK128.out 0).trans rfl
                                              have hcz37_1 : wc.cell? ⟨gb128, 1, none⟩ = some (.string ((rd_T27 l0 x25_2).f1)) := (blk_cell BK128.out 1).trans rfl
                                              have hcz37_2 : wc.cell? ⟨gb128, 2, none⟩ = some (.int .i64 ((rd_T27 l0 x25_2).f2)) := (blk_cell BK128.out 2).trans rfl
                                              have hcz37_3 : wc.cell? ⟨gb128, 3, none⟩ = some (.int .i64 ((rd_T27 l0 x25_2).f3)) := (blk_cell BK128.out 3).trans rfl
                                              have hcz37_4 : wc.cell? ⟨gb128, 4, none⟩ = some (.int .i64 ((rd_T27 l0 x25_2).f4)) := (blk_cell BK128.out 4).trans rfl
                                              have hfz37_0 := blk_frozen BK128.out 0
                                              have hfz37_1 := blk_frozen BK128.out 1
                                              have hfz37_2 := blk_frozen BK128.out 2
                                              have hfz37_3 := blk_frozen BK128.out 3
                                              have hfz37_4 := blk_frozen BK128.out 4
                                              have p129 : 0 ≤ ((ji22) : Int) := of_decide_eq_true (by first | (with_reducible assumption) | assumption)
                                              have q129 : (ji22) < (l0.length : Int) := of_decide_eq_true (by first | (with_reducible assumption) | assumption)
                                              obtain ⟨ad129, e129, hx129_0, hx129_1, hx129_2, hx129_3, hx129_4⟩ := at_T27 HR0.out (ji22) p129 q129
                                              obtain rfl : ad127 = ad129 := (by injection e129)
                                              replace hx129_0 := (HB.out.cell (World.block_lt_of_cell? w _ hx129_0)).trans hx129_0
                                              replace hx129_1 := (HB.out.cell (World.block_lt_of_cell? w _ hx129_1)).trans hx129_1
                                              replace hx129_2 := (HB.out.cell (World.block_lt_of_cell? w _ hx129_2)).trans hx129_2
                                              replace hx129_3 := (HB.out.cell (World.block_lt_of_cell? w _ hx129_3)).trans hx129_3
                                              replace hx129_4 := (HB.out.cell (World.block_lt_of_cell? w _ hx129_4)).trans hx129_4
                                              replace p129 := eq_true p129
                                              replace q129 := eq_true q129
                                              have p130 : 0 ≤ ((ji22) : Int) := of_decide_eq_true (by first | (with_reducible assumption) | assumption)
                                              have q130 : (ji22) < (l0.length : Int) := of_decide_eq_true (by first | (with_reducible assumption) | assumption)
                                              obtain ⟨ad130, e130, hx130_0, hx130_1, hx130_2, hx130_3, hx130_4⟩ := at_T27 HR0.out (ji22) p130 q130
                                              obtain rfl : ad127 = ad130 := (by injection e130)
                                              replace hx130_0 := (HB.out.cell (World.block_lt_of_cell? w _ hx130_0)).trans hx130_0
                                              replace hx130_1 := (HB.out.cell (World.block_lt_of_cell? w _ hx130_1)).trans hx130_1
                                              replace hx130_2 := (HB.out.cell (World.block_lt_of_cell? w _ hx130_2)).trans hx130_2
                                              replace hx130_3 := (HB.out.cell (World.block_lt_of_cell? w _ hx130_3)).trans hx130_3
                                              replace hx130_4 := (HB.out.cell (World.block_lt_of_cell? w _ hx130_4)).trans hx130_4
                                              replace p130 := eq_true p130
                                              replace q130 := eq_true q130
                                              have p131 : 0 ≤ ((ji22) : Int) := of_decide_eq_true (by first | (with_reducible assumption) | assumption)
                                              have q131 : (ji22) < (l0.length : Int) := of_decide_eq_true (by first | (with_reducible assumption) | assumption)
                                              obtain ⟨ad131, e131, hx131_0, hx131_1, hx131_2, hx131_3, hx131_4⟩ := at_T27 HR0.out (ji22) p131 q131
                                              obtain rfl : ad127 = ad131 := (by injection e131)
                                              replace hx131_0 := (HB.out.cell (World.block_lt_of_cell? w _ hx131_0)).trans hx131_0
                                              replace hx131_1 := (HB.out.cell (World.block_lt_of_cell? w _ hx131_1)).trans hx131_1
                                              replace hx131_2 := (HB.out.cell (World.block_lt_of_cell? w _ hx131_2)).trans hx131_2
                                              replace hx131_3 := (HB.out.cell (World.block_lt_of_cell? w _ hx131_3)).trans hx131_3
                                              replace hx131_4 := (HB.out.cell (World.block_lt_of_cell? w _ hx131_4)).trans hx131_4
                                              replace p131 := eq_true p131
                                              replace q131 := eq_true q131
                                              go_wp2
                                              repeat (go_quiet (fail); try go_wp2)
                                              go_roundg kj11
                                              case measure => have := HJ2.out; have := HK2.out; have := HJ11.out; omega
                                              case rel => exact ⟨(wrap64 (x25_2 + 1)), (by first | rfl | (simp; done) | (simp [*]; done)), H', ⟨by have := HJ2.out; have := HK2.out; have := HJ11.out; omega⟩, ⟨by repeat (first | (with_reducible first | exact HB.out | apply below_alloc | apply pw_below_drewN | apply below_drew1 | refine below_set ?_ GE128.out) | exact HB.out)⟩⟩
                                        · rw [if_neg c32] at H
                                          have c32b0 : (((rd_T27 l0 x25_2).f0) == 9) = false := beq_eq_false_iff_ne.mpr c32
                                          have c32b1 : (((rd_T27 l0 x25_2).f0) != 9) = true := bne_iff_ne.mpr c32
                                          by_cases c38 : ((rd_T27 l0 x25_2).f4) < ((rd_T27 l0 (ji22)).f4)
                                          · rw [if_pos c38] at H
                                            have c38b0 : decide (((rd_T27 l0 x25_2).f4) < ((rd_T27 l0 (ji22)).f4)) = true := decide_eq_true c38
                                            clear c38
                                            obtain rfl := Option.some.inj H
                                            have hcz39_0 : wc.cell? ⟨gb128, 0, none⟩ = some (.int .i64 ((rd_T27 l0 x25_2).f0)) := (blk_cell BK128.out 0).trans rfl
                                            have hcz39_1 : wc.cell? ⟨gb128, 1, none⟩ = some (.string ((rd_T27 l0 x25_2).f1)) := (blk_cell BK128.out 1).trans rfl
                                            have hcz39_2 : wc.cell? ⟨gb128, 2, none⟩ = some (.int .i64 ((rd_T27 l0 x25_2).f2)) := (blk_cell BK128.out 2).trans rfl
                                            have hcz39_3 : wc.cell? ⟨gb128, 3, none⟩ = some (.int .i64 ((rd_T27 l0 x25_2).f3)) := (blk_cell BK128.out 3).trans rfl
                                            have hcz39_4 : wc.cell? ⟨gb128, 4, none⟩ = some (.int .i64 ((rd_T27 l0 x25_2).f4)) := (blk_cell BK128.out 4).trans rfl
                                            have hfz39_0 := blk_frozen BK128.out 0
                                            have hfz39_1 := blk_frozen BK128.out 1
                                            have hfz39_2 := blk_frozen BK128.out 2
                                            have hfz39_3 := blk_frozen BK128.out 3
                                            have hfz39_4 := blk_frozen BK128.out 4
                                            have p129 : 0 ≤ ((ji22) : Int) := of_decide_eq_true (by first | (with_reducible assumption) | assumption)
                                            have q129 : (ji22) < (l0.length : Int) := of_decide_eq_true (by first | (with_reducible assumption) | assumption)
                                            obtain ⟨ad129, e129, hx129_0, hx129_1, hx129_2, hx129_3, hx129_4⟩ := at_T27 HR0.out (ji22) p129 q129
                                            obtain rfl : ad127 = ad129 := (by injection e129)
                                            replace hx129_0 := (HB.out.cell (World.block_lt_of_cell? w _ hx129_0)).trans hx129_0
                                            replace hx129_1 := (HB.out.cell (World.block_lt_of_cell? w _ hx129_1)).trans hx129_1
                                            replace hx129_2 := (HB.out.cell (World.block_lt_of_cell? w _ hx129_2)).trans hx129_2
                                            replace hx129_3 := (HB.out.cell (World.block_lt_of_cell? w _ hx129_3)).trans hx129_3
                                            replace hx129_4 := (HB.out.cell (World.block_lt_of_cell? w _ hx129_4)).trans hx129_4
                                            replace p129 := eq_true p129
                                            replace q129 := eq_true q129
                                            have p130 : 0 ≤ ((ji22) : Int) := of_decide_eq_true (by first | (with_reducible assumption) | assumption)
                                            have q130 : (ji22) < (l0.length : Int) := of_decide_eq_true (by first | (with_reducible assumption) | assumption)
                                            obtain ⟨ad130, e130, hx130_0, hx130_1, hx130_2, hx130_3, hx130_4⟩ := at_T27 HR0.out (ji22) p130 q130
                                            obtain rfl : ad127 = ad130 := (by injection e130)
                                            replace hx130_0 := (HB.out.cell (World.block_lt_of_cell? w _ hx130_0)).trans hx130_0
                                            replace hx130_1 := (HB.out.cell (World.block_lt_of_cell? w _ hx130_1)).trans hx130_1
                                            replace hx130_2 := (HB.out.cell (World.block_lt_of_cell? w _ hx130_2)).trans hx130_2
                                            replace hx130_3 := (HB.out.cell (World.block_lt_of_cell? w _ hx130_3)).trans hx130_3
                                            replace hx130_4 := (HB.out.cell (World.block_lt_of_cell? w _ hx130_4)).trans hx130_4
                                            replace p130 := eq_true p130
                                            replace q130 := eq_true q130
                                            have p131 : 0 ≤ ((ji22) : Int) := of_decide_eq_true (by first | (with_reducible assumption) | assumption)
                                            have q131 : (ji22) < (l0.length : Int) := of_decide_eq_true (by first | (with_reducible assumption) | assumption)
                                            obtain ⟨ad131, e131, hx131_0, hx131_1, hx131_2, hx131_3, hx131_4⟩ := at_T27 HR0.out (ji22) p131 q131
                                            obtain rfl : ad127 = ad131 := (by injection e131)
                                            replace hx131_0 := (HB.out.cell (World.block_lt_of_cell? w _ hx131_0)).trans hx131_0
                                            replace hx131_1 := (HB.out.cell (World.block_lt_of_cell? w _ hx131_1)).trans hx131_1
                                            replace hx131_2 := (HB.out.cell (World.block_lt_of_cell? w _ hx131_2)).trans hx131_2
                                            replace hx131_3 := (HB.out.cell (World.block_lt_of_cell? w _ hx131_3)).trans hx131_3
                                            replace hx131_4 := (HB.out.cell (World.block_lt_of_cell? w _ hx131_4)).trans hx131_4
                                            replace p131 := eq_true p131
                                            replace q131 := eq_true q131
                                            go_wp2
                                            repeat (go_quiet (fail); try go_wp2)
                                            go_ret
                                            exact ⟨by first | rfl | (simp [errW_none, errW_some] <;> rfl) | (simp only [← hji22]; first | rfl | (simp [errW_none, errW_some] <;> rfl)) | (simp [*, errW_none, errW_some] <;> rfl), by repeat (first | (with_reducible first | exact HB.out | apply below_alloc | apply pw_below_drewN | apply below_drew1 | refine below_set ?_ GE128.out) | exact HB.out)⟩
                                          · rw [if_neg c38] at H
                                            have c38b0 : decide (((rd_T27 l0 x25_2).f4) < ((rd_T27 l0 (ji22)).f4)) = false := decide_eq_false c38
                                            clear c38
                                            have H' := Aside0.mk H
                                            clear H
                                            have hcz40_0 : wc.cell? ⟨gb128, 0, none⟩ = some (.int .i64 ((rd_T27 l0 x25_2).f0)) := (blk_cell BK128.out 0).trans rfl
                                            have hcz40_1 : wc.cell? ⟨gb128, 1, none⟩ = some (.string ((rd_T27 l0 x25_2).f1)) := (blk_cell BK128.out 1).trans rfl
                                            have hcz40_2 : wc.cell? ⟨gb128, 2, none⟩ = some (.int .i64 ((rd_T27 l0 x25_2).f2)) := (blk_cell BK128.out 2).trans rfl
                                            have hcz40_3 : wc.cell? ⟨gb128, 3, none⟩ = some (.int .i64 ((rd_T27 l0 x25_2).f3)) := (blk_cell BK128.out 3).trans rfl
                                            have hcz40_4 : wc.cell? ⟨gb128, 4, none⟩ = some (.int .i64 ((rd_T27 l0 x25_2).f4)) := (blk_cell BK128.out 4).trans rfl
                                            have hfz40_0 := blk_frozen BK128.out 0
                                            have hfz40_1 := blk_frozen BK128.out 1
                                            have hfz40_2 := blk_frozen BK128.out 2
                                            have hfz40_3 := blk_frozen BK128.out 3
                                            have hfz40_4 := blk_frozen BK128.out 4
                                            have p129 : 0 ≤ ((ji22) : Int) := of_decide_eq_true (by first | (with_reducible assumption) | assumption)
                                            have q129 : (ji22) < (l0.length : Int) := of_decide_eq_true (by first | (with_reducible assumption) | assumption)
                                            obtain ⟨ad129, e129, hx129_0, hx129_1, hx129_2, hx129_3, hx129_4⟩ := at_T27 HR0.out (ji22) p129 q129
                                            obtain rfl : ad127 = ad129 := (by injection e129)
                                            replace hx129_0 := (HB.out.cell (World.block_lt_of_cell? w _ hx129_0)).trans hx129_0
                                            replace hx129_1 := (HB.out.cell (World.block_lt_of_cell? w _ hx129_1)).trans hx129_1
                                            replace hx129_2 := (HB.out.cell (World.block_lt_of_cell? w _ hx129_2)).trans hx129_2
                                            replace hx129_3 := (HB.out.cell (World.block_lt_of_cell? w _ hx129_3)).trans hx129_3
                                            replace hx129_4 := (HB.out.cell (World.block_lt_of_cell? w _ hx129_4)).trans hx129_4
                                            replace p129 := eq_true p129
                                            replace q129 := eq_true q129
                                            have p130 : 0 ≤ ((ji22) : Int) := of_decide_eq_true (by first | (with_reducible assumption) | assumption)
                                            have q130 : (ji22) < (l0.length : Int) := of_decide_eq_true (by first | (with_reducible assumption) | assumption)
                                            obtain ⟨ad130, e130, hx130_0, hx130_1, hx130_2, hx130_3, hx130_4⟩ := at_T27 HR0.out (ji22) p130 q130
                                            obtain rfl : ad127 = ad130 := (by injection e130)
                                            replace hx130_0 := (HB.out.cell (World.block_lt_of_cell? w _ hx130_0)).trans hx130_0
                                            replace hx130_1 := (HB.out.cell (World.block_lt_of_cell? w _ hx130_1)).trans hx130_1
                                            replace hx130_2 := (HB.out.cell (World.block_lt_of_cell? w _ hx130_2)).trans hx130_2
                                            replace hx130_3 := (HB.out.cell (World.block_lt_of_cell? w _ hx130_3)).trans hx130_3
                                            replace hx130_4 := (HB.out.cell (World.block_lt_of_cell? w _ hx130_4)).trans hx130_4
                                            replace p130 := eq_true p130
                                            replace q130 := eq_true q130
                                            have p131 : 0 ≤ ((ji22) : Int) := of_decide_eq_true (by first | (with_reducible assumption) | assumption)
                                            have q131 : (ji22) < (l0.length : Int) := of_decide_eq_true (by first | (with_reducible assumption) | assumption)
                                            obtain ⟨ad131, e131, hx131_0, hx131_1, hx131_2, hx131_3, hx131_4⟩ := at_T27 HR0.out (ji22) p131 q131
                                            obtain rfl : ad127 = ad131 := (by injection e131)
                                            replace hx131_0 := (HB.out.cell (World.block_lt_of_cell? w _ hx131_0)).trans hx131_0
                                            replace hx131_1 := (HB.out.cell (World.block_lt_of_cell? w _ hx131_1)).trans hx131_1
                                            replace hx131_2 := (HB.out.cell (World.block_lt_of_cell? w _ hx131_2)).trans hx131_2
                                            replace hx131_3 := (HB.out.cell (World.block_lt_of_cell? w _ hx131_3)).trans hx131_3
                                            replace hx131_4 := (HB.out.cell (World.block_lt_of_cell? w _ hx131_4)).trans hx131_4
                                            replace p131 := eq_true p131
                                            replace q131 := eq_true q131
                                            go_wp2
                                            repeat (go_quiet (fail); try go_wp2)
                                            go_roundg kj11
                                            case measure => have := HJ2.out; have := HK2.out; have := HJ11.out; omega
                                            case rel => exact ⟨(wrap64 (x25_2 + 1)), (by first | rfl | (simp; done) | (simp [*]; done)), H', ⟨by have := HJ2.out; have := HK2.out; have := HJ11.out; omega⟩, ⟨by repeat (first | (with_reducible first | exact HB.out | apply below_alloc | apply pw_below_drewN | apply below_drew1 | refine below_set ?_ GE128.out) | exact HB.out)⟩⟩
                                      · rw [if_neg c31] at H
                                        have c31b0 : (((rd_T27 l0 x25_2).f3) == ((rd_T27 l0 (ji22)).f3)) = false := beq_eq_false_iff_ne.mpr c31
                                        have c31b1 : (((rd_T27 l0 x25_2).f3) != ((rd_T27 l0 (ji22)).f3)) = true := bne_iff_ne.mpr c31
                                        by_cases c41 : ((rd_T27 l0 x25_2).f0) = 9
                                        · rw [if_pos c41] at H
                                          have c41b0 : (((rd_T27 l0 x25_2).f0) == 9) = true := beq_iff_eq.mpr c41
                                          have c41b1 : (((rd_T27 l0 x25_2).f0) != 9) = false := bne_eq_false_iff_eq.mpr c41
                                          clear c41
                                          by_cases c42 : x25_2 < (wrap64 ((l0.length : Int) - 1))
                                          · rw [if_pos c42] at H
                                            have c42b0 : decide (x25_2 < (wrap64 ((l0.length : Int) - 1))) = true := decide_eq_true c42
                                            clear c42
                                            obtain rfl := Option.some.inj H
                                            have hcz43_0 : wc.cell? ⟨gb128, 0, none⟩ = some (.int .i64 ((rd_T27 l0 x25_2).f0)) := (blk_cell BK128.out 0).trans rfl
                                            have hcz43_1 : wc.cell? ⟨gb128, 1, none⟩ = some (.string ((rd_T27 l0 x25_2).f1)) := (blk_cell BK128.out 1).trans rfl
                                            have hcz43_2 : wc.cell? ⟨gb128, 2, none⟩ = some (.int .i64 ((rd_T27 l0 x25_2).f2)) := (blk_cell BK128.out 2).trans rfl
                                            have hcz43_3 : wc.cell? ⟨gb128, 3, none⟩ = some (.int .i64 ((rd_T27 l0 x25_2).f3)) := (blk_cell BK128.out 3).trans rfl
                                            have hcz43_4 : wc.cell? ⟨gb128, 4, none⟩ = some (.int .i64 ((rd_T27 l0 x25_2).f4)) := (blk_cell BK128.out 4).trans rfl
                                            have hfz43_0 := blk_frozen BK128.out 0
                                            have hfz43_1 := blk_frozen BK128.out 1
                                            have hfz43_2 := blk_frozen BK128.out 2
                                            have hfz43_3 := blk_frozen BK128.out 3
                                            have hfz43_4 := blk_frozen BK128.out 4
                                            have p129 : 0 ≤ ((ji22) : Int) := of_decide_eq_true (by first | (with_reducible assumption) | assumption)
                                            have q129 : (ji22) < (l0.length : Int) := of_decide_eq_true (by first | (with_reducible assumption) | assumption)
                                            obtain ⟨ad129, e129, hx129_0, hx129_1, hx129_2, hx129_3, hx129_4⟩ := at_T27 HR0.out (ji22) p129 q129
                                            obtain rfl : ad127 = ad129 := (by injection e129)
                                            replace hx129_0 := (HB.out.cell (World.block_lt_of_cell? w _ hx129_0)).trans hx129_0
                                            replace hx129_1 := (HB.out.cell (World.block_lt_of_cell? w _ hx129_1)).trans hx129_1
                                            replace hx129_2 := (HB.out.cell (World.block_lt_of_cell? w _ hx129_2)).trans hx129_2
                                            replace hx129_3 := (HB.out.cell (World.block_lt_of_cell? w _ hx129_3)).trans hx129_3
                                            replace hx129_4 := (HB.out.cell (World.block_lt_of_cell? w _ hx129_4)).trans hx129_4
                                            replace p129 := eq_true p129
                                            replace q129 := eq_true q129
                                            have p130 : 0 ≤ ((ji22) : Int) := of_decide_eq_true (by first | (with_reducible assumption) | assumption)
                                            have q130 : (ji22) < (l0.length : Int) := of_decide_eq_true (by first | (with_reducible assumption) | assumption)
                                            obtain ⟨ad130, e130, hx130_0, hx130_1, hx130_2, hx130_3, hx130_4⟩ := at_T27 HR0.out (ji22) p130 q130
                                            obtain rfl : ad127 = ad130 := (by injection e130)
                                            replace hx130_0 := (HB.out.cell (World.block_lt_of_cell? w _ hx130_0)).trans hx130_0
                                            replace hx130_1 := (HB.out.cell (World.block_lt_of_cell? w _ hx130_1)).trans hx130_1
                                            replace hx130_2 := (HB.out.cell (World.block_lt_of_cell? w _ hx130_2)).trans hx130_2
                                            replace hx130_3 := (HB.out.cell (World.block_lt_of_cell? w _ hx130_3)).trans hx130_3
                                            replace hx130_4 := (HB.out.cell (World.block_lt_of_cell? w _ hx130_4)).trans hx130_4
                                            replace p130 := eq_true p130
                                            replace q130 := eq_true q130
                                            go_wp2
                                            repeat (go_quiet (fail); try go_wp2)
                                            go_ret
                                            exact ⟨by first | rfl | (simp [errW_none, errW_some] <;> rfl) | (simp only [← hji22]; first | rfl | (simp [errW_none, errW_some] <;> rfl)) | (simp [*, errW_none, errW_some] <;> rfl), by repeat (first | (with_reducible first | exact HB.out | apply below_alloc | apply pw_below_drewN | apply below_drew1 | refine below_set ?_ GE128.out) | exact HB.out)⟩
                                          · rw [if_neg c42] at H
                                            have c42b0 : decide (x25_2 < (wrap64 ((l0.length : Int) - 1))) = false := decide_eq_false c42
                                            clear c42
                                            have H' := Aside0.mk H
                                            clear H
                                            have hcz44_0 : wc.cell? ⟨gb128, 0, none⟩ = some (.int .i64 ((rd_T27 l0 x25_2).f0)) := (blk_cell BK128.out 0).trans rfl
                                            have hcz44_1 : wc.cell? ⟨gb128, 1, none⟩ = some (.string ((rd_T27 l0 x25_2).f1)) := (blk_cell BK128.out 1).trans rfl
                                            have hcz44_2 : wc.cell? ⟨gb128, 2, none⟩ = some (.int .i64 ((rd_T27 l0 x25_2).f2)) := (blk_cell BK128.out 2).trans rfl
                                            have hcz44_3 : wc.cell? ⟨gb128, 3, none⟩ = some (.int .i64 ((rd_T27 l0 x25_2).f3)) := (blk_cell BK128.out 3).trans rfl
                                            have hcz44_4 : wc.cell? ⟨gb128, 4, none⟩ = some (.int .i64 ((rd_T27 l0 x25_2).f4)) := (blk_cell BK128.out 4).trans rfl
                                            have hfz44_0 := blk_frozen BK128.out 0
                                            have hfz44_1 := blk_frozen BK128.out 1
                                            have hfz44_2 := blk_frozen BK128.out 2
                                            have hfz44_3 := blk_frozen BK128.out 3
                                            have hfz44_4 := blk_frozen BK128.out 4
                                            have p129 : 0 ≤ ((ji22) : Int) := of_decide_eq_true (by first | (with_reducible assumption) | assumption)
                                            have q129 : (ji22) < (l0.length : Int) := of_decide_eq_true (by first | (with_reducible assumption) | assumption)
                                            obtain ⟨ad129, e129, hx129_0, hx129_1, hx129_2, hx129_3, hx129_4⟩ := at_T27 HR0.out (ji22) p129 q129
                                            obtain rfl : ad127 = ad129 := (by injection e129)
                                            replace hx129_0 := (HB.out.cell (World.block_lt_of_cell? w _ hx129_0)).trans hx129_0
                                            replace hx129_1 := (HB.out.cell (World.block_lt_of_cell? w _ hx129_1)).trans hx129_1
                                            replace hx129_2 := (HB.out.cell (World.block_lt_of_cell? w _ hx129_2)).trans hx129_2
                                            replace hx129_3 := (HB.out.cell (World.block_lt_of_cell? w _ hx129_3)).trans hx129_3
                                            replace hx129_4 := (HB.out.cell (World.block_lt_of_cell? w _ hx129_4)).trans hx129_4
                                            replace p129 := eq_true p129
                                            replace q129 := eq_true q129
                                            have p130 : 0 ≤ ((ji22) : Int) := of_decide_eq_true (by first | (with_reducible assumption) | assumption)
                                            have q130 : (ji22) < (l0.length : Int) := of_decide_eq_true (by first | (with_reducible assumption) | assumption)
                                            obtain ⟨ad130, e130, hx130_0, hx130_1, hx130_2, hx130_3, hx130_4⟩ := at_T27 HR0.out (ji22) p130 q130
                                            obtain rfl : ad127 = ad130 := (by injection e130)
                                            replace hx130_0 := (HB.out.cell (World.block_lt_of_cell? w _ hx130_0)).trans hx130_0
                                            replace hx130_1 := (HB.out.cell (World.block_lt_of_cell? w _ hx130_1)).trans hx130_1
                                            replace hx130_2 := (HB.out.cell (World.block_lt_of_cell? w _ hx130_2)).trans hx130_2
                                            replace hx130_3 := (HB.out.cell (World.block_lt_of_cell? w _ hx130_3)).trans hx130_3
                                            replace hx130_4 := (HB.out.cell (World.block_lt_of_cell? w _ hx130_4)).trans hx130_4
                                            replace p130 := eq_true p130
                                            replace q130 := eq_true q130
                                            go_wp2
                                            repeat (go_quiet (fail); try go_wp2)
                                            go_roundg kj11
                                            case measure => have := HJ2.out; have := HK2.out; have := HJ11.out; omega
                                            case rel => exact ⟨(wrap64 (x25_2 + 1)), (by first | rfl | (simp; done) | (simp [*]; done)), H', ⟨by have := HJ2.out; have := HK2.out; have := HJ11.out; omega⟩, ⟨by repeat (first | (with_reducible first | exact HB.out | apply below_alloc | apply pw_below_drewN | apply below_drew1 | refine below_set ?_ GE128.out) | exact HB.out)⟩⟩
                                        · rw [if_neg c41] at H
                                          have c41b0 : (((rd_T27 l0 x25_2).f0) == 9) = false := beq_eq_false_iff_ne.mpr c41
                                          have c41b1 : (((rd_T27 l0 x25_2).f0) != 9) = true := bne_iff_ne.mpr c41
                                          have H' := Aside0.mk H
                                          clear H
                                          have hcz45_0 : wc.cell? ⟨gb128, 0, none⟩ = some (.int .i64 ((rd_T27 l0 x25_2).f0)) := (blk_cell BK128.out 0).trans rfl
                                          have hcz45_1 : wc.cell? ⟨gb128, 1, none⟩ = some (.string ((rd_T27 l0 x25_2).f1)) := (blk_cell BK128.out 1).trans rfl
                                          have hcz45_2 : wc.cell? ⟨gb128, 2, none⟩ = some (.int .i64 ((rd_T27 l0 x25_2).f2)) := (blk_cell BK128.out 2).trans rfl
                                          have hcz45_3 : wc.cell? ⟨gb128, 3, none⟩ = some (.int .i64 ((rd_T27 l0 x25_2).f3)) := (blk_cell BK128.out 3).trans rfl
                                          have hcz45_4 : wc.cell? ⟨gb128, 4, none⟩ = some (.int .i64 ((rd_T27 l0 x25_2).f4)) := (blk_cell BK128.out 4).trans rfl
                                          have hfz45_0 := blk_frozen BK128.out 0
                                          have hfz45_1 := blk_frozen BK128.out 1
                                          have hfz45_2 := blk_frozen BK128.out 2
                                          have hfz45_3 := blk_frozen BK128.out 3
                                          have hfz45_4 := blk_frozen BK128.out 4
                                          have p129 : 0 ≤ ((ji22) : Int) := of_decide_eq_true (by first | (with_reducible assumption) | assumption)
                                          have q129 : (ji22) < (l0.length : Int) := of_decide_eq_true (by first | (with_reducible assumption) | assumption)
                                          obtain ⟨ad129, e129, hx129_0, hx129_1, hx129_2, hx129_3, hx129_4⟩ := at_T27 HR0.out (ji22) p129 q129
                                          obtain rfl : ad127 = ad129 := (by injection e129)
                                          replace hx129_0 := (HB.out.cell (World.block_lt_of_cell? w _ hx129_0)).trans hx129_0
                                          replace hx129_1 := (HB.out.cell (World.block_lt_of_cell? w _ hx129_1)).trans hx129_1
                                          replace hx129_2 := (HB.out.cell (World.block_lt_of_cell? w _ hx129_2)).trans hx129_2
                                          replace hx129_3 := (HB.out.cell (World.block_lt_of_cell? w _ hx129_3)).trans hx129_3
                                          replace hx129_4 := (HB.out.cell (World.block_lt_of_cell? w _ hx129_4)).trans hx129_4
                                          replace p129 := eq_true p129
                                          replace q129 := eq_true q129
                                          have p130 : 0 ≤ ((ji22) : Int) := of_decide_eq_true (by first | (with_reducible assumption) | assumption)
                                          have q130 : (ji22) < (l0.length : Int) := of_decide_eq_true (by first | (with_reducible assumption) | assumption)
                                          obtain ⟨ad130, e130, hx130_0, hx130_1, hx130_2, hx130_3, hx130_4⟩ := at_T27 HR0.out (ji22) p130 q130
                                          obtain rfl : ad127 = ad130 := (by injection e130)
                                          replace hx130_0 := (HB.out.cell (World.block_lt_of_cell? w _ hx130_0)).trans hx130_0
                                          replace hx130_1 := (HB.out.cell (World.block_lt_of_cell? w _ hx130_1)).trans hx130_1
                                          replace hx130_2 := (HB.out.cell (World.block_lt_of_cell? w _ hx130_2)).trans hx130_2
                                          replace hx130_3 := (HB.out.cell (World.block_lt_of_cell? w _ hx130_3)).trans hx130_3
                                          replace hx130_4 := (HB.out.cell (World.block_lt_of_cell? w _ hx130_4)).trans hx130_4
                                          replace p130 := eq_true p130
                                          replace q130 := eq_true q130
                                          go_wp2
                                          repeat (go_quiet (fail); try go_wp2)
                                          go_roundg kj11
                                          case measure => have := HJ2.out; have := HK2.out; have := HJ11.out; omega
                                          case rel => exact ⟨(wrap64 (x25_2 + 1)), (by first | rfl | (simp; done) | (simp [*]; done)), H', ⟨by have := HJ2.out; have := HK2.out; have := HJ11.out; omega⟩, ⟨by repeat (first | (with_reducible first | exact HB.out | apply below_alloc | apply pw_below_drewN | apply below_drew1 | refine below_set ?_ GE128.out) | exact HB.out)⟩⟩
                                  · rw [if_neg c24] at H
                                    exact absurd H (by simp)
                                · rw [if_neg c23] at H
                                  exact absurd H (by simp)
                              · rw [if_neg c21] at H
                                have c21b0 : decide (0 < x25_2) = false := decide_eq_false c21
                                clear c21
                                by_cases c46 : ((rd_T27 l0 x25_2).f0) = 9
                                · rw [if_pos c46] at H
                                  have c46b0 : (((rd_T27 l0 x25_2).f0) == 9) = true := beq_iff_eq.mpr c46
                                  have c46b1 : (((rd_T27 l0 x25_2).f0) != 9) = false := bne_eq_false_iff_eq.mpr c46
                                  clear c46
                                  by_cases c47 : x25_2 < (wrap64 ((l0.length : Int) - 1))
                                  · rw [if_pos c47] at H
                                    have c47b0 : decide (x25_2 < (wrap64 ((l0.length : Int) - 1))) = true := decide_eq_true c47
                                    clear c47
                                    obtain rfl := Option.some.inj H
                                    have hcz48_0 : wc.cell? ⟨gb128, 0, none⟩ = some (.int .i64 ((rd_T27 l0 x25_2).f0)) := (blk_cell BK128.out 0).trans rfl
                                    have hcz48_1 : wc.cell? ⟨gb128, 1, none⟩ = some (.string ((rd_T27 l0 x25_2).f1)) := (blk_cell BK128.out 1).trans rfl
                                    have hcz48_2 : wc.cell? ⟨gb128, 2, none⟩ = some (.int .i64 ((rd_T27 l0 x25_2).f2)) := (blk_cell BK128.out 2).trans rfl
                                    have hcz48_3 : wc.cell? ⟨gb128, 3, none⟩ = some (.int .i64 ((rd_T27 l0 x25_2).f3)) := (blk_cell BK128.out 3).trans rfl
                                    have hcz48_4 : wc.cell? ⟨gb128, 4, none⟩ = some (.int .i64 ((rd_T27 l0 x25_2).f4)) := (blk_cell BK128.out 4).trans rfl
                                    have hfz48_0 := blk_frozen BK128.out 0
                                    have hfz48_1 := blk_frozen BK128.out 1
                                    have hfz48_2 := blk_frozen BK128.out 2
                                    have hfz48_3 := blk_frozen BK128.out 3
                                    have hfz48_4 := blk_frozen BK128.out 4
                                    go_wp2
                                    repeat (go_quiet (fail); try go_wp2)
                                    go_ret
                                    exact ⟨by first | rfl | (simp [errW_none, errW_some] <;> rfl) | (simp [*, errW_none, errW_some] <;> rfl), by repeat (first | (with_reducible first | exact HB.out | apply below_alloc | apply pw_below_drewN | apply below_drew1 | refine below_set ?_ GE128.out) | exact HB.out)⟩
                                  · rw [if_neg c47] at H
                                    have c47b0 : decide (x25_2 < (wrap64 ((l0.length : Int) - 1))) = false := decide_eq_false c47
                                    clear c47
                                    have H' := Aside0.mk H
                                    clear H
                                    have hcz49_0 : wc.cell? ⟨gb128, 0, none⟩ = some (.int .i64 ((rd_T27 l0 x25_2).f0)) := (blk_cell BK128.out 0).trans rfl
                                    have hcz49_1 : wc.cell? ⟨gb128, 1, none⟩ = some (.string ((rd_T27 l0 x25_2).f1)) := (blk_cell BK128.out 1).trans rfl
                                    have hcz49_2 : wc.cell? ⟨gb128, 2, none⟩ = some (.int .i64 ((rd_T27 l0 x25_2).f2)) := (blk_cell BK128.out 2).trans rfl
                                    have hcz49_3 : wc.cell? ⟨gb128, 3, none⟩ = some (.int .i64 ((rd_T27 l0 x25_2).f3)) := (blk_cell BK128.out 3).trans rfl
                                    have hcz49_4 : wc.cell? ⟨gb128, 4, none⟩ = some (.int .i64 ((rd_T27 l0 x25_2).f4)) := (blk_cell BK128.out 4).trans rfl
                                    have hfz49_0 := blk_frozen BK128.out 0
                                    have hfz49_1 := blk_frozen BK128.out 1
                                    have hfz49_2 := blk_frozen BK128.out 2
                                    have hfz49_3 := blk_frozen BK128.out 3
                                    have hfz49_4 := blk_frozen BK128.out 4
                                    go_wp2
                                    repeat (go_quiet (fail); try go_wp2)
                                    go_roundg kj11
                                    case measure => have := HJ2.out; have := HK2.out; have := HJ11.out; omega
                                    case rel => exact ⟨(wrap64 (x25_2 + 1)), (by first | rfl | (simp; done) | (simp [*]; done)), H', ⟨by have := HJ2.out; have := HK2.out; have := HJ11.out; omega⟩, ⟨by repeat (first | (with_reducible first | exact HB.out | apply below_alloc | apply pw_below_drewN | apply below_drew1 | refine below_set ?_ GE128.out) | exact HB.out)⟩⟩
                                · rw [if_neg c46] at H
                                  have c46b0 : (((rd_T27 l0 x25_2).f0) == 9) = false := beq_eq_false_iff_ne.mpr c46
                                  have c46b1 : (((rd_T27 l0 x25_2).f0) != 9) = true := bne_iff_ne.mpr c46
                                  have H' := Aside0.mk H
                                  clear H
                                  have hcz50_0 : wc.cell? ⟨gb128, 0, none⟩ = some (.int .i64 ((rd_T27 l0 x25_2).f0)) := (blk_cell BK128.out 0).trans rfl
                                  have hcz50_1 : wc.cell? ⟨gb128, 1, none⟩ = some (.string ((rd_T27 l0 x25_2).f1)) := (blk_cell BK128.out 1).trans rfl
                                  have hcz50_2 : wc.cell? ⟨gb128, 2, none⟩ = some (.int .i64 ((rd_T27 l0 x25_2).f2)) := (blk_cell BK128.out 2).trans rfl
                                  have hcz50_3 : wc.cell? ⟨gb128, 3, none⟩ = some (.int .i64 ((rd_T27 l0 x25_2).f3)) := (blk_cell BK128.out 3).trans rfl
                                  have hcz50_4 : wc.cell? ⟨gb128, 4, none⟩ = some (.int .i64 ((rd_T27 l0 x25_2).f4)) := (blk_cell BK128.out 4).trans rfl
                                  have hfz50_0 := blk_frozen BK128.out 0
                                  have hfz50_1 := blk_frozen BK128.out 1
                                  have hfz50_2 := blk_frozen BK128.out 2
                                  have hfz50_3 := blk_frozen BK128.out 3
                                  have hfz50_4 := blk_frozen BK128.out 4
                                  go_wp2
                                  repeat (go_quiet (fail); try go_wp2)
                                  go_roundg kj11
                                  case measure => have := HJ2.out; have := HK2.out; have := HJ11.out; omega
                                  case rel => exact ⟨(wrap64 (x25_2 + 1)), (by first | rfl | (simp; done) | (simp [*]; done)), H', ⟨by have := HJ2.out; have := HK2.out; have := HJ11.out; omega⟩, ⟨by repeat (first | (with_reducible first | exact HB.out | apply below_alloc | apply pw_below_drewN | apply below_drew1 | refine below_set ?_ GE128.out) | exact HB.out)⟩⟩
                            · rw [if_neg c20] at H
                              have c20b0 : decide (((rd_T27 l0 x25_2).f0) ≤ 5) = false := decide_eq_false c20
                              clear c20
                              by_cases c51 : x25_2 > 0
                              · rw [if_pos c51] at H
                                have c51b0 : decide (0 < x25_2) = true := decide_eq_true c51
                                clear c51
                                obtain ⟨ji52, hji52⟩ : ∃ j_ : Int, (wrap64 (x25_2 - 1)) = j_ := ⟨_, rfl⟩
                                replace H : (if 0 ≤ (ji52) then (if (ji52) < (l0.length : Int) then (if ((rd_T27 l0 x25_2).f3) < ((rd_T27 l0 (ji52)).f3) then (if ((rd_T27 l0 x25_2).f0) = 9 then (if x25_2 < (wrap64 ((l0.length : Int) - 1)) then (some 3) else (some 3)) else (some 3)) else (if ((rd_T27 l0 x25_2).f3) = ((rd_T27 l0 (ji52)).f3) then (if ((rd_T27 l0 x25_2).f0) = 9 then (if x25_2 < (wrap64 ((l0.length : Int) - 1)) then (some 3) else (if ((rd_T27 l0 x25_2).f4) < ((rd_T27 l0 (ji52)).f4) then (some 3) else (provenancelaw1_tokensError.l0 kj11 l0 l0 (l0.length : Int) (wrap64 (x25_2 + 1))))) else (some 3)) else (if ((rd_T27 l0 x25_2).f0) = 9 then (if x25_2 < (wrap64 ((l0.length : Int) - 1)) then (some 3) else (provenancelaw1_tokensError.l0 kj11 l0 l0 (l0.length : Int) (wrap64 (x25_2 + 1)))) else (some 3)))) else (none)) else (none)) = some r := by first | (rw [hji52] at H; exact H) | (simp only [hji52] at H ⊢; exact H)
                                have hji52w : (IntKind.i64.wrap (x25_2 - 1)) = ji52 := (i64_w _).trans hji52
                                by_cases c53 : 0 ≤ (ji52)
                                · rw [if_pos c53] at H
                                  have c53b0 : decide (0 ≤ (ji52)) = true := decide_eq_true c53
                                  clear c53
                                  by_cases c54 : (ji52) < (l0.length : Int)
                                  · rw [if_pos c54] at H
                                    have c54b0 : decide ((ji52) < (l0.length : Int)) = true := decide_eq_true c54
                                    clear c54
                                    by_cases c55 : ((rd_T27 l0 x25_2).f3) < ((rd_T27 l0 (ji52)).f3)
                                    · rw [if_pos c55] at H
                                      have c55b0 : decide (((rd_T27 l0 x25_2).f3) < ((rd_T27 l0 (ji52)).f3)) = true := decide_eq_true c55
                                      clear c55
                                      by_cases c56 : ((rd_T27 l0 x25_2).f0) = 9
                                      · rw [if_pos c56] at H
                                        have c56b0 : (((rd_T27 l0 x25_2).f0) == 9) = true := beq_iff_eq.mpr c56
                                        have c56b1 : (((rd_T27 l0 x25_2).f0) != 9) = false := bne_eq_false_iff_eq.mpr c56
                                        clear c56
                                        by_cases c57 : x25_2 < (wrap64 ((l0.length : Int) - 1))
                                        · rw [if_pos c57] at H
                                          have c57b0 : decide (x25_2 < (wrap64 ((l0.length : Int) - 1))) = true := decide_eq_true c57
                                          clear c57
                                          obtain rfl := Option.some.inj H
                                          have hcz58_0 : wc.cell? ⟨gb128, 0, none⟩ = some (.int .i64 ((rd_T27 l0 x25_2).f0)) := (blk_cell BK128.out 0).trans rfl
                                          have hcz58_1 : wc.cell? ⟨gb128, 1, none⟩ = some (.string ((rd_T27 l0 x25_2).f1)) := (blk_cell BK128.out 1).trans rfl
                                          have hcz58_2 : wc.cell? ⟨gb128, 2, none⟩ = some (.int .i64 ((rd_T27 l0 x25_2).f2)) := (blk_cell BK128.out 2).trans rfl
                                          have hcz58_3 : wc.cell? ⟨gb128, 3, none⟩ = some (.int .i64 ((rd_T27 l0 x25_2).f3)) := (blk_cell BK128.out 3).trans rfl
                                          have hcz58_4 : wc.cell? ⟨gb128, 4, none⟩ = some (.int .i64 ((rd_T27 l0 x25_2).f4)) := (blk_cell BK128.out 4).trans rfl
                                          have hfz58_0 := blk_frozen BK128.out 0
                                          have hfz58_1 := blk_frozen BK128.out 1
                                          have hfz58_2 := blk_frozen BK128.out 2
                                          have hfz58_3 := blk_frozen BK128.out 3
                                          have hfz58_4 := blk_frozen BK128.out 4
                                          have p132 : 0 ≤ ((ji52) : Int) := of_decide_eq_true (by first | (with_reducible assumption) | assumption)
                                          have q132 : (ji52) < (l0.length : Int) := of_decide_eq_true (by first | (with_reducible assumption) | assumption)
                                          obtain ⟨ad132, e132, hx132_0, hx132_1, hx132_2, hx132_3, hx132_4⟩ := at_T27 HR0.out (ji52) p132 q132
                                          obtain rfl : ad127 = ad132 := (by injection e132)
                                          replace hx132_0 := (HB.out.cell (World.block_lt_of_cell? w _ hx132_0)).trans hx132_0
                                          replace hx132_1 := (HB.out.cell (World.block_lt_of_cell? w _ hx132_1)).trans hx132_1
                                          replace hx132_2 := (HB.out.cell (World.block_lt_of_cell? w _ hx132_2)).trans hx132_2
                                          replace hx132_3 := (HB.out.cell (World.block_lt_of_cell? w _ hx132_3)).trans hx132_3
                                          replace hx132_4 := (HB.out.cell (World.block_lt_of_cell? w _ hx132_4)).trans hx132_4
                                          replace p132 := eq_true p132
                                          replace q132 := eq_true q132
                                          go_wp2
                                          repeat (go_quiet (fail); try go_wp2)
                                          go_ret
                                          exact ⟨by first | rfl | (simp [errW_none, errW_some] <;> rfl) | (simp only [← hji52]; first | rfl | (simp [errW_none, errW_some] <;> rfl)) | (simp [*, errW_none, errW_some] <;> rfl), by repeat (first | (with_reducible first | exact HB.out | apply below_alloc | apply pw_below_drewN | apply below_drew1 | refine below_set ?_ GE128.out) | exact HB.out)⟩
                                        · rw [if_neg c57] at H
                                          have c57b0 : decide (x25_2 < (wrap64 ((l0.length : Int) - 1))) = false := decide_eq_false c57
                                          clear c57
                                          obtain rfl := Option.some.inj H
                                          have hcz59_0 : wc.cell? ⟨gb128, 0, none⟩ = some (.int .i64 ((rd_T27 l0 x25_2).f0)) := (blk_cell BK128.out 0).trans rfl
                                          have hcz59_1 : wc.cell? ⟨gb128, 1, none⟩ = some (.string ((rd_T27 l0 x25_2).f1)) := (blk_cell BK128.out 1).trans rfl
                                          have hcz59_2 : wc.cell? ⟨gb128, 2, none⟩ = some (.int .i64 ((rd_T27 l0 x25_2).f2)) := (blk_cell BK128.out 2).trans rfl
                                          have hcz59_3 : wc.cell? ⟨gb128, 3, none⟩ = some (.int .i64 ((rd_T27 l0 x25_2).f3)) := (blk_cell BK128.out 3).trans rfl
                                          have hcz59_4 : wc.cell? ⟨gb128, 4, none⟩ = some (.int .i64 ((rd_T27 l0 x25_2).f4)) := (blk_cell BK128.out 4).trans rfl
                                          have hfz59_0 := blk_frozen BK128.out 0
                                          have hfz59_1 := blk_frozen BK128.out 1
                                          have hfz59_2 := blk_frozen BK128.out 2
                                          have hfz59_3 := blk_frozen BK128.out 3
                                          have hfz59_4 := blk_frozen BK128.out 4
                                          have p132 : 0 ≤ ((ji52) : Int) := of_decide_eq_true (by first | (with_reducible assumption) | assumption)
                                          have q132 : (ji52) < (l0.length : Int) := of_decide_eq_true (by first | (with_reducible assumption) | assumption)
                                          obtain ⟨ad132, e132, hx132_0, hx132_1, hx132_2, hx132_3, hx132_4⟩ := at_T27 HR0.out (ji52) p132 q132
                                          obtain rfl : ad127 = ad132 := (by injection e132)
                                          replace hx132_0 := (HB.out.cell (World.block_lt_of_cell? w _ hx132_0)).trans hx132_0
                                          replace hx132_1 := (HB.out.cell (World.block_lt_of_cell? w _ hx132_1)).trans hx132_1
                                          replace hx132_2 := (HB.out.cell (World.block_lt_of_cell? w _ hx132_2)).trans hx132_2
                                          replace hx132_3 := (HB.out.cell (World.block_lt_of_cell? w _ hx132_3)).trans hx132_3
                                          replace hx132_4 := (HB.out.cell (World.block_lt_of_cell? w _ hx132_4)).trans hx132_4
                                          replace p132 := eq_true p132
                                          replace q132 := eq_true q132
                                          go_wp2
                                          repeat (go_quiet (fail); try go_wp2)
                                          go_ret
                                          exact ⟨by first | rfl | (simp [errW_none, errW_some] <;> rfl) | (simp only [← hji52]; first | rfl | (simp [errW_none, errW_some] <;> rfl)) | (simp [*, errW_none, errW_some] <;> rfl), by repeat (first | (with_reducible first | exact HB.out | apply below_alloc | apply pw_below_drewN | apply below_drew1 | refine below_set ?_ GE128.out) | exact HB.out)⟩
                                      · rw [if_neg c56] at H
                                        have c56b0 : (((rd_T27 l0 x25_2).f0) == 9) = false := beq_eq_false_iff_ne.mpr c56
                                        have c56b1 : (((rd_T27 l0 x25_2).f0) != 9) = true := bne_iff_ne.mpr c56
                                        obtain rfl := Option.some.inj H
                                        have hcz60_0 : wc.cell? ⟨gb128, 0, none⟩ = some (.int .i64 ((rd_T27 l0 x25_2).f0)) := (blk_cell BK128.out 0).trans rfl
                                        have hcz60_1 : wc.cell? ⟨gb128, 1, none⟩ = some (.string ((rd_T27 l0 x25_2).f1)) := (blk_cell BK128.out 1).trans rfl
                                        have hcz60_2 : wc.cell? ⟨gb128, 2, none⟩ = some (.int .i64 ((rd_T27 l0 x25_2).f2)) := (blk_cell BK128.out 2).trans rfl
                                        have hcz60_3 : wc.cell? ⟨gb128, 3, none⟩ = some (.int .i64 ((rd_T27 l0 x25_2).f3)) := (blk_cell BK128.out 3).trans rfl
                                        have hcz60_4 : wc.cell? ⟨gb128, 4, none⟩ = some (.int .i64 ((rd_T27 l0 x25_2).f4)) := (blk_cell BK128.out 4).trans rfl
                                        have hfz60_0 := blk_frozen BK128.out 0
                                        have hfz60_1 := blk_frozen BK128.out 1
                                        have hfz60_2 := blk_frozen BK128.out 2
                                        have hfz60_3 := blk_frozen BK128.out 3
                                        have hfz60_4 := blk_frozen BK128.out 4
                                        have p132 : 0 ≤ ((ji52) : Int) := of_decide_eq_true (by first | (with_reducible assumption) | assumption)
                                        have q132 : (ji52) < (l0.length : Int) := of_decide_eq_true (by first | (with_reducible assumption) | assumption)
                                        obtain ⟨ad132, e132, hx132_0, hx132_1, hx132_2, hx132_3, hx132_4⟩ := at_T27 HR0.out (ji52) p132 q132
                                        obtain rfl : ad127 = ad132 := (by injection e132)
                                        replace hx132_0 := (HB.out.cell (World.block_lt_of_cell? w _ hx132_0)).trans hx132_0
                                        replace hx132_1 := (HB.out.cell (World.block_lt_of_cell? w _ hx132_1)).trans hx132_1
                                        replace hx132_2 := (HB.out.cell (World.block_lt_of_cell? w _ hx132_2)).trans hx132_2
                                        replace hx132_3 := (HB.out.cell (World.block_lt_of_cell? w _ hx132_3)).trans hx132_3
                                        replace hx132_4 := (HB.out.cell (World.block_lt_of_cell? w _ hx132_4)).trans hx132_4
                                        replace p132 := eq_true p132
                                        replace q132 := eq_true q132
                                        go_wp2
                                        repeat (go_quiet (fail); try go_wp2)
                                        go_ret
                                        exact ⟨by first | rfl | (simp [errW_none, errW_some] <;> rfl) | (simp only [← hji52]; first | rfl | (simp [errW_none, errW_some] <;> rfl)) | (simp [*, errW_none, errW_some] <;> rfl), by repeat (first | (with_reducible first | exact HB.out | apply below_alloc | apply pw_below_drewN | apply below_drew1 | refine below_set ?_ GE128.out) | exact HB.out)⟩
                                    · rw [if_neg c55] at H
                                      have c55b0 : decide (((rd_T27 l0 x25_2).f3) < ((rd_T27 l0 (ji52)).f3)) = false := decide_eq_false c55
                                      clear c55
                                      by_cases c61 : ((rd_T27 l0 x25_2).f3) = ((rd_T27 l0 (ji52)).f3)
                                      · rw [if_pos c61] at H
                                        have c61b0 : (((rd_T27 l0 x25_2).f3) == ((rd_T27 l0 (ji52)).f3)) = true := beq_iff_eq.mpr c61
                                        have c61b1 : (((rd_T27 l0 x25_2).f3) != ((rd_T27 l0 (ji52)).f3)) = false := bne_eq_false_iff_eq.mpr c61
                                        clear c61
                                        by_cases c62 : ((rd_T27 l0 x25_2).f0) = 9
                                        · rw [if_pos c62] at H
                                          have c62b0 : (((rd_T27 l0 x25_2).f0) == 9) = true := beq_iff_eq.mpr c62
                                          have c62b1 : (((rd_T27 l0 x25_2).f0) != 9) = false := bne_eq_false_iff_eq.mpr c62
                                          clear c62
                                          by_cases c63 : x25_2 < (wrap64 ((l0.length : Int) - 1))
                                          · rw [if_pos c63] at H
                                            have c63b0 : decide (x25_2 < (wrap64 ((l0.length : Int) - 1))) = true := decide_eq_true c63
                                            clear c63
                                            obtain rfl := Option.some.inj H
                                            have hcz64_0 : wc.cell? ⟨gb128, 0, none⟩ = some (.int .i64 ((rd_T27 l0 x25_2).f0)) := (blk_cell BK128.out 0).trans rfl
                                            have hcz64_1 : wc.cell? ⟨gb128, 1, none⟩ = some (.string ((rd_T27 l0 x25_2).f1)) := (blk_cell BK128.out 1).trans rfl
                                            have hcz64_2 : wc.cell? ⟨gb128, 2, none⟩ = some (.int .i64 ((rd_T27 l0 x25_2).f2)) := (blk_cell BK128.out 2).trans rfl
                                            have hcz64_3 : wc.cell? ⟨gb128, 3, none⟩ = some (.int .i64 ((rd_T27 l0 x25_2).f3)) := (blk_cell BK128.out 3).trans rfl
                                            have hcz64_4 : wc.cell? ⟨gb128, 4, none⟩ = some (.int .i64 ((rd_T27 l0 x25_2).f4)) := (blk_cell BK128.out 4).trans rfl
                                            have hfz64_0 := blk_frozen BK128.out 0
                                            have hfz64_1 := blk_frozen BK128.out 1
                                            have hfz64_2 := blk_frozen BK128.out 2
                                            have hfz64_3 := blk_frozen BK128.out 3
                                            have hfz64_4 := blk_frozen BK128.out 4
                                            have p132 : 0 ≤ ((ji52) : Int) := of_decide_eq_true (by first | (with_reducible assumption) | assumption)
                                            have q132 : (ji52) < (l0.length : Int) := of_decide_eq_true (by first | (with_reducible assumption) | assumption)
                                            obtain ⟨ad132, e132, hx132_0, hx132_1, hx132_2, hx132_3, hx132_4⟩ := at_T27 HR0.out (ji52) p132 q132
                                            obtain rfl : ad127 = ad132 := (by injection e132)
                                            replace hx132_0 := (HB.out.cell (World.block_lt_of_cell? w _ hx132_0)).trans hx132_0
                                            replace hx132_1 := (HB.out.cell (World.block_lt_of_cell? w _ hx132_1)).trans hx132_1
                                            replace hx132_2 := (HB.out.cell (World.block_lt_of_cell? w _ hx132_2)).trans hx132_2
                                            replace hx132_3 := (HB.out.cell (World.block_lt_of_cell? w _ hx132_3)).trans hx132_3
                                            replace hx132_4 := (HB.out.cell (World.block_lt_of_cell? w _ hx132_4)).trans hx132_4
                                            replace p132 := eq_true p132
                                            replace q132 := eq_true q132
                                            have p133 : 0 ≤ ((ji52) : Int) := of_decide_eq_true (by first | (with_reducible assumption) | assumption)
                                            have q133 : (ji52) < (l0.length : Int) := of_decide_eq_true (by first | (with_reducible assumption) | assumption)
                                            obtain ⟨ad133, e133, hx133_0, hx133_1, hx133_2, hx133_3, hx133_4⟩ := at_T27 HR0.out (ji52) p133 q133
                                            obtain rfl : ad127 = ad133 := (by injection e133)
                                            replace hx133_0 := (HB.out.cell (World.block_lt_of_cell? w _ hx133_0)).trans hx133_0
                                            replace hx133_1 := (HB.out.cell (World.block_lt_of_cell? w _ hx133_1)).trans hx133_1
                                            replace hx133_2 := (HB.out.cell (World.block_lt_of_cell? w _ hx133_2)).trans hx133_2
                                            replace hx133_3 := (HB.out.cell (World.block_lt_of_cell? w _ hx133_3)).trans hx133_3
                                            replace hx133_4 := (HB.out.cell (World.block_lt_of_cell? w _ hx133_4)).trans hx133_4
                                            replace p133 := eq_true p133
                                            replace q133 := eq_true q133
                                            have p134 : 0 ≤ ((ji52) : Int) := of_decide_eq_true (by first | (with_reducible assumption) | assumption)
                                            have q134 : (ji52) < (l0.length : Int) := of_decide_eq_true (by first | (with_reducible assumption) | assumption)
                                            obtain ⟨ad134, e134, hx134_0, hx134_1, hx134_2, hx134_3, hx134_4⟩ := at_T27 HR0.out (ji52) p134 q134
                                            obtain rfl : ad127 = ad134 := (by injection e134)
                                            replace hx134_0 := (HB.out.cell (World.block_lt_of_cell? w _ hx134_0)).trans hx134_0
                                            replace hx134_1 := (HB.out.cell (World.block_lt_of_cell? w _ hx134_1)).trans hx134_1
                                            replace hx134_2 := (HB.out.cell (World.block_lt_of_cell? w _ hx134_2)).trans hx134_2
                                            replace hx134_3 := (HB.out.cell (World.block_lt_of_cell? w _ hx134_3)).trans hx134_3
                                            replace hx134_4 := (HB.out.cell (World.block_lt_of_cell? w _ hx134_4)).trans hx134_4
                                            replace p134 := eq_true p134
                                            replace q134 := eq_true q134
                                            go_wp2
                                            repeat (go_quiet (fail); try go_wp2)
                                            go_ret
                                            exact ⟨by first | rfl | (simp [errW_none, errW_some] <;> rfl) | (simp only [← hji52]; first | rfl | (simp [errW_none, errW_some] <;> rfl)) | (simp [*, errW_none, errW_some] <;> rfl), by repeat (first | (with_reducible first | exact HB.out | apply below_alloc | apply pw_below_drewN | apply below_drew1 | refine below_set ?_ GE128.out) | exact HB.out)⟩
                                          · rw [if_neg c63] at H
                                            have c63b0 : decide (x25_2 < (wrap64 ((l0.length : Int) - 1))) = false := decide_eq_false c63
                                            clear c63
                                            by_cases c65 : ((rd_T27 l0 x25_2).f4) < ((rd_T27 l0 (ji52)).f4)
                                            · rw [if_pos c65] at H
                                              have c65b0 : decide (((rd_T27 l0 x25_2).f4) < ((rd_T27 l0 (ji52)).f4)) = true := decide_eq_true c65
                                              clear c65
                                              obtain rfl := Option.some.inj H
                                              have hcz66_0 : wc.cell? ⟨gb128, 0, none⟩ = some (.int .i64 ((rd_T27 l0 x25_2).f0)) := (blk_cell BK128.out 0).trans rfl
                                              have hcz66_1 : wc.cell? ⟨gb128, 1, none⟩ = some (.string ((rd_T27 l0 x25_2).f1)) := (blk_cell BK128.out 1).trans rfl
                                              have hcz66_2 : wc.cell? ⟨gb128, 2, none⟩ = some (.int .i64 ((rd_T27 l0 x25_2).f2)) := (blk_cell BK128.out 2).trans rfl
                                              have hcz66_3 : wc.cell? ⟨gb128, 3, none⟩ = some (.int .i64 ((rd_T27 l0 x25_2).f3)) := (blk_cell BK128.out 3).trans rfl
                                              have hcz66_4 : wc.cell? ⟨gb128, 4, none⟩ = some (.int .i64 ((rd_T27 l0 x25_2).f4)) := (blk_cell BK128.out 4).trans rfl
                                              have hfz66_0 := blk_frozen BK128.out 0
                                              have hfz66_1 := blk_frozen BK128.out 1
                                              have hfz66_2 := blk_frozen BK128.out 2
                                              have hfz66_3 := blk_frozen BK128.out 3
                                              have hfz66_4 := blk_frozen BK128.out 4
                                              have p132 : 0 ≤ ((ji52) : Int) := of_decide_eq_true (by first | (with_reducible assumption) | assumption)
                                              have q132 : (ji52) < (l0.length : Int) := of_decide_eq_true (by first | (with_reducible assumption) | assumption)
                                              obtain ⟨ad132, e132, hx132_0, hx132_1, hx132_2, hx132_3, hx132_4⟩ := at_T27 HR0.out (ji52) p132 q132
                                              obtain rfl : ad127 = ad132 := (by injection e132)
                                              replace hx132_0 := (HB.out.cell (World.block_lt_of_cell? w _ hx132_0)).trans hx132_0
                                              replace hx132_1 := (HB.out.cell (World.block_lt_of_cell? w _ hx132_1)).trans hx132_1
                                              replace hx132_2 := (HB.out.cell (World.block_lt_of_cell? w _ hx132_2)).trans hx132_2
                                              replace hx132_3 := (HB.out.cell (World.block_lt_of_cell? w _ hx132_3)).trans hx132_3
                                              replace hx132_4 := (HB.out.cell (World.block_lt_of_cell? w _ hx132_4)).trans hx132_4
                                              replace p132 := eq_true p132
                                              replace q132 := eq_true q132
                                              have p133 : 0 ≤ ((ji52) : Int) := of_decide_eq_true (by first | (with_reducible assumption) | assumption)
                                              have q133 : (ji52) < (l0.length : Int) := of_decide_eq_true (by first | (with_reducible assumption) | assumption)
                                              obtain ⟨ad133, e133, hx133_0, hx133_1, hx133_2, hx133_3, hx133_4⟩ := at_T27 HR0.out (ji52) p133 q133
                                              obtain rfl : ad127 = ad133 := (by injection e133)
                                              replace hx133_0 := (HB.out.cell (World.block_lt_of_cell? w _ hx133_0)).trans hx133_0
                                              replace hx133_1 := (HB.out.cell (World.block_lt_of_cell? w _ hx133_1)).trans hx133_1
                                              replace hx133_2 := (HB.out.cell (World.block_lt_of_cell? w _ hx133_2)).trans hx133_2
                                              replace hx133_3 := (HB.out.cell (World.block_lt_of_cell? w _ hx133_3)).trans hx133_3
                                              replace hx133_4 := (HB.out.cell (World.block_lt_of_cell? w _ hx133_4)).trans hx133_4
                                              replace p133 := eq_true p133
                                              replace q133 := eq_true q133
                                              have p134 : 0 ≤ ((ji52) : Int) := of_decide_eq_true (by first | (with_reducible assumption) | assumption)
                                              have q134 : (ji52) < (l0.length : Int) := of_decide_eq_true (by first | (with_reducible assumption) | assumption)
                                              obtain ⟨ad134, e134, hx134_0, hx134_1, hx134_2, hx134_3, hx134_4⟩ := at_T27 HR0.out (ji52) p134 q134
                                              obtain rfl : ad127 = ad134 := (by injection e134)
                                              replace hx134_0 := (HB.out.cell (World.block_lt_of_cell? w _ hx134_0)).trans hx134_0
                                              replace hx134_1 := (HB.out.cell (World.block_lt_of_cell? w _ hx134_1)).trans hx134_1
                                              replace hx134_2 := (HB.out.cell (World.block_lt_of_cell? w _ hx134_2)).trans hx134_2
                                              replace hx134_3 := (HB.out.cell (World.block_lt_of_cell? w _ hx134_3)).trans hx134_3
                                              replace hx134_4 := (HB.out.cell (World.block_lt_of_cell? w _ hx134_4)).trans hx134_4
                                              replace p134 := eq_true p134
                                              replace q134 := eq_true q134
                                              go_wp2
                                              repeat (go_quiet (fail); try go_wp2)
                                              go_ret
                                              exact ⟨by first | rfl | (simp [errW_none, errW_some] <;> rfl) | (simp only [← hji52]; first | rfl | (simp [errW_none, errW_some] <;> rfl)) | (simp [*, errW_none, errW_some] <;> rfl), by repeat (first | (with_reducible first | exact HB.out | apply below_alloc | apply pw_below_drewN | apply below_drew1 | refine below_set ?_ GE128.out) | exact HB.out)⟩
                                            · rw [if_neg c65] at H
                                              have c65b0 : decide (((rd_T27 l0 x25_2).f4) < ((rd_T27 l0 (ji52)).f4)) = false := decide_eq_false c65
                                              clear c65
                                              have H' := Aside0.mk H
                                              clear H
                                              have hcz67_0 : wc.cell? ⟨gb128, 0, none⟩ = some (.int .i64 ((rd_T27 l0 x25_2).f0)) := (blk_cell BK128.out 0).trans rfl
                                              have hcz67_1 : wc.cell? ⟨gb128, 1, none⟩ = some (.string ((rd_T27 l0 x25_2).f1)) := (blk_cell BK128.out 1).trans rfl
                                              have hcz67_2 : wc.cell? ⟨gb128, 2, none⟩ = some (.int .i64 ((rd_T27 l0 x25_2).f2)) := (blk_cell BK128.out 2).trans rfl
                                              have hcz67_3 : wc.cell? ⟨gb128, 3, none⟩ = some (.int .i64 ((rd_T27 l0 x25_2).f3)) := (blk_cell BK128.out 3).trans rfl
                                              have hcz67_4 : wc.cell? ⟨gb128, 4, none⟩ = some (.int .i64 ((rd_T27 l0 x25_2).f4)) := (blk_cell BK128.out 4).trans rfl
                                              have hfz67_0 := blk_frozen BK128.out 0
                                              have hfz67_1 := blk_frozen BK128.out 1
                                              have hfz67_2 := blk_frozen BK128.out 2
                                              have hfz67_3 := blk_frozen BK128.out 3
                                              have hfz67_4 := blk_frozen BK128.out 4
                                              have p132 : 0 ≤ ((ji52) : Int) := of_decide_eq_true (by first | (with_reducible assumption) | assumption)
                                              have q132 : (ji52) < (l0.length : Int) := of_decide_eq_true (by first | (with_reducible assumption) | assumption)
                                              obtain ⟨ad132, e132, hx132_0, hx132_1, hx132_2, hx132_3, hx132_4⟩ := at_T27 HR0.out (ji52) p132 q132
                                              obtain rfl : ad127 = ad132 := (by injection e132)
                                              replace hx132_0 := (HB.out.cell (World.block_lt_of_cell? w _ hx132_0)).trans hx132_0
                                              replace hx132_1 := (HB.out.cell (World.block_lt_of_cell? w _ hx132_1)).trans hx132_1
                                              replace hx132_2 := (HB.out.cell (World.block_lt_of_cell? w _ hx132_2)).trans hx132_2
                                              replace hx132_3 := (HB.out.cell (World.block_lt_of_cell? w _ hx132_3)).trans hx132_3
                                              replace hx132_4 := (HB.out.cell (World.block_lt_of_cell? w _ hx132_4)).trans hx132_4
                                              replace p132 := eq_true p132
                                              replace q132 := eq_true q132
                                              have p133 : 0 ≤ ((ji52) : Int) := of_decide_eq_true (by first | (with_reducible assumption) | assumption)
                                              have q133 : (ji52) < (l0.length : Int) := of_decide_eq_true (by first | (with_reducible assumption) | assumption)
                                              obtain ⟨ad133, e133, hx133_0, hx133_1, hx133_2, hx133_3, hx133_4⟩ := at_T27 HR0.out (ji52) p133 q133
                                              obtain rfl : ad127 = ad133 := (by injection e133)
                                              replace hx133_0 := (HB.out.cell (World.block_lt_of_cell? w _ hx133_0)).trans hx133_0
                                              replace hx133_1 := (HB.out.cell (World.block_lt_of_cell? w _ hx133_1)).trans hx133_1
                                              replace hx133_2 := (HB.out.cell (World.block_lt_of_cell? w _ hx133_2)).trans hx133_2
                                              replace hx133_3 := (HB.out.cell (World.block_lt_of_cell? w _ hx133_3)).trans hx133_3
                                              replace hx133_4 := (HB.out.cell (World.block_lt_of_cell? w _ hx133_4)).trans hx133_4
                                              replace p133 := eq_true p133
                                              replace q133 := eq_true q133
                                              have p134 : 0 ≤ ((ji52) : Int) := of_decide_eq_true (by first | (with_reducible assumption) | assumption)
                                              have q134 : (ji52) < (l0.length : Int) := of_decide_eq_true (by first | (with_reducible assumption) | assumption)
                                              obtain ⟨ad134, e134, hx134_0, hx134_1, hx134_2, hx134_3, hx134_4⟩ := at_T27 HR0.out (ji52) p134 q134
                                              obtain rfl : ad127 = ad134 := (by injection e134)
                                              replace hx134_0 := (HB.out.cell (World.block_lt_of_cell? w _ hx134_0)).trans hx134_0
                                              replace hx134_1 := (HB.out.cell (World.block_lt_of_cell? w _ hx134_1)).trans hx134_1
                                              replace hx134_2 := (HB.out.cell (World.block_lt_of_cell? w _ hx134_2)).trans hx134_2
                                              replace hx134_3 := (HB.out.cell (World.block_lt_of_cell? w _ hx134_3)).trans hx134_3
                                              replace hx134_4 := (HB.out.cell (World.block_lt_of_cell? w _ hx134_4)).trans hx134_4
                                              replace p134 := eq_true p134
                                              replace q134 := eq_true q134
                                              go_wp2
                                              repeat (go_quiet (fail); try go_wp2)
                                              go_roundg kj11
                                              case measure => have := HJ2.out; have := HK2.out; have := HJ11.out; omega
                                              case rel => exact ⟨(wrap64 (x25_2 + 1)), (by first | rfl | (simp; done) | (simp [*]; done)), H', ⟨by have := HJ2.out; have := HK2.out; have := HJ11.out; omega⟩, ⟨by repeat (first | (with_reducible first | exact HB.out | apply below_alloc | apply pw_below_drewN | apply below_drew1 | refine below_set ?_ GE128.out) | exact HB.out)⟩⟩
                                        · rw [if_neg c62] at H
                                          have c62b0 : (((rd_T27 l0 x25_2).f0) == 9) = false := beq_eq_false_iff_ne.mpr c62
                                          have c62b1 : (((rd_T27 l0 x25_2).f0) != 9) = true := bne_iff_ne.mpr c62
                                          obtain rfl := Option.some.inj H
                                          have hcz68_0 : wc.cell? ⟨gb128, 0, none⟩ = some (.int .i64 ((rd_T27 l0 x25_2).f0)) := (blk_cell BK128.out 0).trans rfl
                                          have hcz68_1 : wc.cell? ⟨gb128, 1, none⟩ = some (.string ((rd_T27 l0 x25_2).f1)) := (blk_cell BK128.out 1).trans rfl
                                          have hcz68_2 : wc.cell? ⟨gb128, 2, none⟩ = some (.int .i64 ((rd_T27 l0 x25_2).f2)) := (blk_cell BK128.out 2).trans rfl
                                          have hcz68_3 : wc.cell? ⟨gb128, 3, none⟩ = some (.int .i64 ((rd_T27 l0 x25_2).f3)) := (blk_cell BK128.out 3).trans rfl
                                          have hcz68_4 : wc.cell? ⟨gb128, 4, none⟩ = some (.int .i64 ((rd_T27 l0 x25_2).f4)) := (blk_cell BK128.out 4).trans rfl
                                          have hfz68_0 := blk_frozen BK128.out 0
                                          have hfz68_1 := blk_frozen BK128.out 1
                                          have hfz68_2 := blk_frozen BK128.out 2
                                          have hfz68_3 := blk_frozen BK128.out 3
                                          have hfz68_4 := blk_frozen BK128.out 4
                                          have p132 : 0 ≤ ((ji52) : Int) := of_decide_eq_true (by first | (with_reducible assumption) | assumption)
                                          have q132 : (ji52) < (l0.length : Int) := of_decide_eq_true (by first | (with_reducible assumption) | assumption)
                                          obtain ⟨ad132, e132, hx132_0, hx132_1, hx132_2, hx132_3, hx132_4⟩ := at_T27 HR0.out (ji52) p132 q132
                                          obtain rfl : ad127 = ad132 := (by injection e132)
                                          replace hx132_0 := (HB.out.cell (World.block_lt_of_cell? w _ hx132_0)).trans hx132_0
                                          replace hx132_1 := (HB.out.cell (World.block_lt_of_cell? w _ hx132_1)).trans hx132_1
                                          replace hx132_2 := (HB.out.cell (World.block_lt_of_cell? w _ hx132_2)).trans hx132_2
                                          replace hx132_3 := (HB.out.cell (World.block_lt_of_cell? w _ hx132_3)).trans hx132_3
                                          replace hx132_4 := (HB.out.cell (World.block_lt_of_cell? w _ hx132_4)).trans hx132_4
                                          replace p132 := eq_true p132
                                          replace q132 := eq_true q132
                                          have p133 : 0 ≤ ((ji52) : Int) := of_decide_eq_true (by first | (with_reducible assumption) | assumption)
                                          have q133 : (ji52) < (l0.length : Int) := of_decide_eq_true (by first | (with_reducible assumption) | assumption)
                                          obtain ⟨ad133, e133, hx133_0, hx133_1, hx133_2, hx133_3, hx133_4⟩ := at_T27 HR0.out (ji52) p133 q133
                                          obtain rfl : ad127 = ad133 := (by injection e133)
                                          replace hx133_0 := (HB.out.cell (World.block_lt_of_cell? w _ hx133_0)).trans hx133_0
                                          replace hx133_1 := (HB.out.cell (World.block_lt_of_cell? w _ hx133_1)).trans hx133_1
                                          replace hx133_2 := (HB.out.cell (World.block_lt_of_cell? w _ hx133_2)).trans hx133_2
                                          replace hx133_3 := (HB.out.cell (World.block_lt_of_cell? w _ hx133_3)).trans hx133_3
                                          replace hx133_4 := (HB.out.cell (World.block_lt_of_cell? w _ hx133_4)).trans hx133_4
                                          replace p133 := eq_true p133
                                          replace q133 := eq_true q133
                                          have p134 : 0 ≤ ((ji52) : Int) := of_decide_eq_true (by first | (with_reducible assumption) | assumption)
                                          have q134 : (ji52) < (l0.length : Int) := of_decide_eq_true (by first | (with_reducible assumption) | assumption)
                                          obtain ⟨ad134, e134, hx134_0, hx134_1, hx134_2, hx134_3, hx134_4⟩ := at_T27 HR0.out (ji52) p134 q134
                                          obtain rfl : ad127 = ad134 := (by injection e134)
                                          replace hx134_0 := (HB.out.cell (World.block_lt_of_cell? w _ hx134_0)).trans hx134_0
                                          replace hx134_1 := (HB.out.cell (World.block_lt_of_cell? w _ hx134_1)).trans hx134_1
                                          replace hx134_2 := (HB.out.cell (World.block_lt_of_cell? w _ hx134_2)).trans hx134_2
                                          replace hx134_3 := (HB.out.cell (World.block_lt_of_cell? w _ hx134_3)).trans hx134_3
                                          replace hx134_4 := (HB.out.cell (World.block_lt_of_cell? w _ hx134_4)).trans hx134_4
                                          replace p134 := eq_true p134
                                          replace q134 := eq_true q134
                                          go_wp2
                                          repeat (go_quiet (fail); try go_wp2)
                                          go_ret
                                          exact ⟨by first | rfl | (simp [errW_none, errW_some] <;> rfl) | (simp only [← hji52]; first | rfl | (simp [errW_none, errW_some] <;> rfl)) | (simp [*, errW_none, errW_some] <;> rfl), by repeat (first | (with_reducible first | exact HB.out | apply below_alloc | apply pw_below_drewN | apply below_drew1 | refine below_set ?_ GE128.out) | exact HB.out)⟩
                                      · rw [if_neg c61] at H
                                        have c61b0 : (((rd_T27 l0 x25_2).f3) == ((rd_T27 l0 (ji52)).f3)) = false := beq_eq_false_iff_ne.mpr c61
                                        have c61b1 : (((rd_T27 l0 x25_2).f3) != ((rd_T27 l0 (ji52)).f3)) = true := bne_iff_ne.mpr c61
                                        by_cases c69 : ((rd_T27 l0 x25_2).f0) = 9
                                        · rw [if_pos c69] at H
                                          have c69b0 : (((rd_T27 l0 x25_2).f0) == 9) = true := beq_iff_eq.mpr c69
                                          have c69b1 : (((rd_T27 l0 x25_2).f0) != 9) = false := bne_eq_false_iff_eq.mpr c69
                                          clear c69
                                          by_cases c70 : x25_2 < (wrap64 ((l0.length : Int) - 1))
                                          · rw [if_pos c70] at H
                                            have c70b0 : decide (x25_2 < (wrap64 ((l0.length : Int) - 1))) = true := decide_eq_true c70
                                            clear c70
                                            obtain rfl := Option.some.inj H
                                            have hcz71_0 : wc.cell? ⟨gb128, 0, none⟩ = some (.int .i64 ((rd_T27 l0 x25_2).f0)) := (blk_cell BK128.out 0).trans rfl
                                            have hcz71_1 : wc.cell? ⟨gb128, 1, none⟩ = some (.string ((rd_T27 l0 x25_2).f1)) := (blk_cell BK128.out 1).trans rfl
                                            have hcz71_2 : wc.cell? ⟨gb128, 2, none⟩ = some (.int .i64 ((rd_T27 l0 x25_2).f2)) := (blk_cell BK128.out 2).trans rfl
                                            have hcz71_3 : wc.cell? ⟨gb128, 3, none⟩ = some (.int .i64 ((rd_T27 l0 x25_2).f3)) := (blk_cell BK128.out 3).trans rfl
                                            have hcz71_4 : wc.cell? ⟨gb128, 4, none⟩ = some (.int .i64 ((rd_T27 l0 x25_2).f4)) := (blk_cell BK128.out 4).trans rfl
                                            have hfz71_0 := blk_frozen BK128.out 0
                                            have hfz71_1 := blk_frozen BK128.out 1
                                            have hfz71_2 := blk_frozen BK128.out 2
                                            have hfz71_3 := blk_frozen BK128.out 3
                                            have hfz71_4 := blk_frozen BK128.out 4
                                            have p132 : 0 ≤ ((ji52) : Int) := of_decide_eq_true (by first | (with_reducible assumption) | assumption)
                                            have q132 : (ji52) < (l0.length : Int) := of_decide_eq_true (by first | (with_reducible assumption) | assumption)
                                            obtain ⟨ad132, e132, hx132_0, hx132_1, hx132_2, hx132_3, hx132_4⟩ := at_T27 HR0.out (ji52) p132 q132
                                            obtain rfl : ad127 = ad132 := (by injection e132)
                                            replace hx132_0 := (HB.out.cell (World.block_lt_of_cell? w _ hx132_0)).trans hx132_0
                                            replace hx132_1 := (HB.out.cell (World.block_lt_of_cell? w _ hx132_1)).trans hx132_1
                                            replace hx132_2 := (HB.out.cell (World.block_lt_of_cell? w _ hx132_2)).trans hx132_2
                                            replace hx132_3 := (HB.out.cell (World.block_lt_of_cell? w _ hx132_3)).trans hx132_3
                                            replace hx132_4 := (HB.out.cell (World.block_lt_of_cell? w _ hx132_4)).trans hx132_4
                                            replace p132 := eq_true p132
                                            replace q132 := eq_true q132
                                            have p133 : 0 ≤ ((ji52) : Int) := of_decide_eq_true (by first | (with_reducible assumption) | assumption)
                                            have q133 : (ji52) < (l0.length : Int) := of_decide_eq_true (by first | (with_reducible assumption) | assumption)
                                            obtain ⟨ad133, e133, hx133_0, hx133_1, hx133_2, hx133_3, hx133_4⟩ := at_T27 HR0.out (ji52) p133 q133
                                            obtain rfl : ad127 = ad133 := (by injection e133)
                                            replace hx133_0 := (HB.out.cell (World.block_lt_of_cell? w _ hx133_0)).trans hx133_0
                                            replace hx133_1 := (HB.out.cell (World.block_lt_of_cell? w _ hx133_1)).trans hx133_1
                                            replace hx133_2 := (HB.out.cell (World.block_lt_of_cell? w _ hx133_2)).trans hx133_2
                                            replace hx133_3 := (HB.out.cell (World.block_lt_of_cell? w _ hx133_3)).trans hx133_3
                                            replace hx133_4 := (HB.out.cell (World.block_lt_of_cell? w _ hx133_4)).trans hx133_4
                                            replace p133 := eq_true p133
                                            replace q133 := eq_true q133
                                            go_wp2
                                            repeat (go_quiet (fail); try go_wp2)
                                            go_ret
                                            exact ⟨by first | rfl | (simp [errW_none, errW_some] <;> rfl) | (simp only [← hji52]; first | rfl | (simp [errW_none, errW_some] <;> rfl)) | (simp [*, errW_none, errW_some] <;> rfl), by repeat (first | (with_reducible first | exact HB.out | apply below_alloc | apply pw_below_drewN | apply below_drew1 | refine below_set ?_ GE128.out) | exact HB.out)⟩
                                          · rw [if_neg c70] at H
                                            have c70b0 : decide (x25_2 < (wrap64 ((l0.length : Int) - 1))) = false := decide_eq_false c70
                                            clear c70
                                            have H' := Aside0.mk H
                                            clear H
                                            have hcz72_0 : wc.cell? ⟨gb128, 0, none⟩ = some (.int .i64 ((rd_T27 l0 x25_2).f0)) := (blk_cell BK128.out 0).trans rfl
                                            have hcz72_1 : wc.cell? ⟨gb128, 1, none⟩ = some (.string ((rd_T27 l0 x25_2).f1)) := (blk_cell BK128.out 1).trans rfl
                                            have hcz72_2 : wc.cell? ⟨gb128, 2, none⟩ = some (.int .i64 ((rd_T27 l0 x25_2).f2)) := (blk_cell BK128.out 2).trans rfl
                                            have hcz72_3 : wc.cell? ⟨gb128, 3, none⟩ = some (.int .i64 ((rd_T27 l0 x25_2).f3)) := (blk_cell BK128.out 3).trans rfl
                                            have hcz72_4 : wc.cell? ⟨gb128, 4, none⟩ = some (.int .i64 ((rd_T27 l0 x25_2).f4)) := (blk_cell BK128.out 4).trans rfl
                                            have hfz72_0 := blk_frozen BK128.out 0
                                            have hfz72_1 := blk_frozen BK128.out 1
                                            have hfz72_2 := blk_frozen BK128.out 2
                                            have hfz72_3 := blk_frozen BK128.out 3
                                            have hfz72_4 := blk_frozen BK128.out 4
                                            have p132 : 0 ≤ ((ji52) : Int) := of_decide_eq_true (by first | (with_reducible assumption) | assumption)
                                            have q132 : (ji52) < (l0.length : Int) := of_decide_eq_true (by first | (with_reducible assumption) | assumption)
                                            obtain ⟨ad132, e132, hx132_0, hx132_1, hx132_2, hx132_3, hx132_4⟩ := at_T27 HR0.out (ji52) p132 q132
                                            obtain rfl : ad127 = ad132 := (by injection e132)
                                            replace hx132_0 := (HB.out.cell (World.block_lt_of_cell? w _ hx132_0)).trans hx132_0
                                            replace hx132_1 := (HB.out.cell (World.block_lt_of_cell? w _ hx132_1)).trans hx132_1
                                            replace hx132_2 := (HB.out.cell (World.block_lt_of_cell? w _ hx132_2)).trans hx132_2
                                            replace hx132_3 := (HB.out.cell (World.block_lt_of_cell? w _ hx132_3)).trans hx132_3
                                            replace hx132_4 := (HB.out.cell (World.block_lt_of_cell? w _ hx132_4)).trans hx132_4
                                            replace p132 := eq_true p132
                                            replace q132 := eq_true q132
                                            have p133 : 0 ≤ ((ji52) : Int) := of_decide_eq_true (by first | (with_reducible assumption) | assumption)
                                            have q133 : (ji52) < (l0.length : Int) := of_decide_eq_true (by first | (with_reducible assumption) | assumption)
                                            obtain ⟨ad133, e133, hx133_0, hx133_1, hx133_2, hx133_3, hx133_4⟩ := at_T27 HR0.out (ji52) p133 q133
                                            obtain rfl : ad127 = ad133 := (by injection e133)
                                            replace hx133_0 := (HB.out.cell (World.block_lt_of_cell? w _ hx133_0)).trans hx133_0
                                            replace hx133_1 := (HB.out.cell (World.block_lt_of_cell? w _ hx133_1)).trans hx133_1
                                            replace hx133_2 := (HB.out.cell (World.block_lt_of_cell? w _ hx133_2)).trans hx133_2
                                            replace hx133_3 := (HB.out.cell (World.block_lt_of_cell? w _ hx133_3)).trans hx133_3
                                            replace hx133_4 := (HB.out.cell (World.block_lt_of_cell? w _ hx133_4)).trans hx133_4
                                            replace p133 := eq_true p133
                                            replace q133 := eq_true q133
                                            go_wp2
                                            repeat (go_quiet (fail); try go_wp2)
                                            go_roundg kj11
                                            case measure => have := HJ2.out; have := HK2.out; have := HJ11.out; omega
                                            case rel => exact ⟨(wrap64 (x25_2 + 1)), (by first | rfl | (simp; done) | (simp [*]; done)), H', ⟨by have := HJ2.out; have := HK2.out; have := HJ11.out; omega⟩, ⟨by repeat (first | (with_reducible first | exact HB.out | apply below_alloc | apply pw_below_drewN | apply below_drew1 | refine below_set ?_ GE128.out) | exact HB.out)⟩⟩
                                        · rw [if_neg c69] at H
                                          have c69b0 : (((rd_T27 l0 x25_2).f0) == 9) = false := beq_eq_false_iff_ne.mpr c69
                                          have c69b1 : (((rd_T27 l0 x25_2).f0) != 9) = true := bne_iff_ne.mpr c69
                                          obtain rfl := Option.some.inj H
                                          have hcz73_0 : wc.cell? ⟨gb128, 0, none⟩ = some (.int .i64 ((rd_T27 l0 x25_2).f0)) := (blk_cell BK128.out 0).trans rfl
                                          have hcz73_1 : wc.cell? ⟨gb128, 1, none⟩ = some (.string ((rd_T27 l0 x25_2).f1)) := (blk_cell BK128.out 1).trans rfl
                                          have hcz73_2 : wc.cell? ⟨gb128, 2, none⟩ = some (.int .i64 ((rd_T27 l0 x25_2).f2)) := (blk_cell BK128.out 2).trans rfl
                                          have hcz73_3 : wc.cell? ⟨gb128, 3, none⟩ = some (.int .i64 ((rd_T27 l0 x25_2).f3)) := (blk_cell BK128.out 3).trans rfl
                                          have hcz73_4 : wc.cell? ⟨gb128, 4, none⟩ = some (.int .i64 ((rd_T27 l0 x25_2).f4)) := (blk_cell BK128.out 4).trans rfl
                                          have hfz73_0 := blk_frozen BK128.out 0
                                          have hfz73_1 := blk_frozen BK128.out 1
                                          have hfz73_2 := blk_frozen BK128.out 2
                                          have hfz73_3 := blk_frozen BK128.out 3
                                          have hfz73_4 := blk_frozen BK128.out 4
                                          have p132 : 0 ≤ ((ji52) : Int) := of_decide_eq_true (by first | (with_reducible assumption) | assumption)
                                          have q132 : (ji52) < (l0.length : Int) := of_decide_eq_true (by first | (with_reducible assumption) | assumption)
                                          obtain ⟨ad132, e132, hx132_0, hx132_1, hx132_2, hx132_3, hx132_4⟩ := at_T27 HR0.out (ji52) p132 q132
                                          obtain rfl : ad127 = ad132 := (by injection e132)
                                          replace hx132_0 := (HB.out.cell (World.block_lt_of_cell? w _ hx132_0)).trans hx132_0
                                          replace hx132_1 := (HB.out.cell (World.block_lt_of_cell? w _ hx132_1)).trans hx132_1
                                          replace hx132_2 := (HB.out.cell (World.block_lt_of_cell? w _ hx132_2)).trans hx132_2
                                          replace hx132_3 := (HB.out.cell (World.block_lt_of_cell? w _ hx132_3)).trans hx132_3
                                          replace hx132_4 := (HB.out.cell (World.block_lt_of_cell? w _ hx132_4)).trans hx132_4
                                          replace p132 := eq_true p132
                                          replace q132 := eq_true q132
                                          have p133 : 0 ≤ ((ji52) : Int) := of_decide_eq_true (by first | (with_reducible assumption) | assumption)
                                          have q133 : (ji52) < (l0.length : Int) := of_decide_eq_true (by first | (with_reducible assumption) | assumption)
                                          obtain ⟨ad133, e133, hx133_0, hx133_1, hx133_2, hx133_3, hx133_4⟩ := at_T27 HR0.out (ji52) p133 q133
                                          obtain rfl : ad127 = ad133 := (by injection e133)
                                          replace hx133_0 := (HB.out.cell (World.block_lt_of_cell? w _ hx133_0)).trans hx133_0
                                          replace hx133_1 := (HB.out.cell (World.block_lt_of_cell? w _ hx133_1)).trans hx133_1
                                          replace hx133_2 := (HB.out.cell (World.block_lt_of_cell? w _ hx133_2)).trans hx133_2
                                          replace hx133_3 := (HB.out.cell (World.block_lt_of_cell? w _ hx133_3)).trans hx133_3
                                          replace hx133_4 := (HB.out.cell (World.block_lt_of_cell? w _ hx133_4)).trans hx133_4
                                          replace p133 := eq_true p133
                                          replace q133 := eq_true q133
                                          go_wp2
                                          repeat (go_quiet (fail); try go_wp2)
                                          go_ret
                                          exact ⟨by first | rfl | (simp [errW_none, errW_some] <;> rfl) | (simp only [← hji52]; first | rfl | (simp [errW_none, errW_some] <;> rfl)) | (simp [*, errW_none, errW_some] <;> rfl), by repeat (first | (with_reducible first | exact HB.out | apply below_alloc | apply pw_below_drewN | apply below_drew1 | refine below_set ?_ GE128.out) | exact HB.out)⟩
                                  · rw [if_neg c54] at H
                                    exact absurd H (by simp)
                                · rw [if_neg c53] at H
                                  exact absurd H (by simp)
                              · rw [if_neg c51] at H
                                have c51b0 : decide (0 < x25_2) = false := decide_eq_false c51
                                clear c51
                                by_cases c74 : ((rd_T27 l0 x25_2).f0) = 9
                                · rw [if_pos c74] at H
                                  have c74b0 : (((rd_T27 l0 x25_2).f0) == 9) = true := beq_iff_eq.mpr c74
                                  have c74b1 : (((rd_T27 l0 x25_2).f0) != 9) = false := bne_eq_false_iff_eq.mpr c74
                                  clear c74
                                  by_cases c75 : x25_2 < (wrap64 ((l0.length : Int) - 1))
                                  · rw [if_pos c75] at H
                                    have c75b0 : decide (x25_2 < (wrap64 ((l0.length : Int) - 1))) = true := decide_eq_true c75
                                    clear c75
                                    obtain rfl := Option.some.inj H
                                    have hcz76_0 : wc.cell? ⟨gb128, 0, none⟩ = some (.int .i64 ((rd_T27 l0 x25_2).f0)) := (blk_cell BK128.out 0).trans rfl
                                    have hcz76_1 : wc.cell? ⟨gb128, 1, none⟩ = some (.string ((rd_T27 l0 x25_2).f1)) := (blk_cell BK128.out 1).trans rfl
                                    have hcz76_2 : wc.cell? ⟨gb128, 2, none⟩ = some (.int .i64 ((rd_T27 l0 x25_2).f2)) := (blk_cell BK128.out 2).trans rfl
                                    have hcz76_3 : wc.cell? ⟨gb128, 3, none⟩ = some (.int .i64 ((rd_T27 l0 x25_2).f3)) := (blk_cell BK128.out 3).trans rfl
                                    have hcz76_4 : wc.cell? ⟨gb128, 4, none⟩ = some (.int .i64 ((rd_T27 l0 x25_2).f4)) := (blk_cell BK128.out 4).trans rfl
                                    have hfz76_0 := blk_frozen BK128.out 0
                                    have hfz76_1 := blk_frozen BK128.out 1
                                    have hfz76_2 := blk_frozen BK128.out 2
                                    have hfz76_3 := blk_frozen BK128.out 3
                                    have hfz76_4 := blk_frozen BK128.out 4
                                    go_wp2
                                    repeat (go_quiet (fail); try go_wp2)
                                    go_ret
                                    exact ⟨by first | rfl | (simp [errW_none, errW_some] <;> rfl) | (simp [*, errW_none, errW_some] <;> rfl), by repeat (first | (with_reducible first | exact HB.out | apply below_alloc | apply pw_below_drewN | apply below_drew1 | refine below_set ?_ GE128.out) | exact HB.out)⟩
                                  · rw [if_neg c75] at H
                                    have c75b0 : decide (x25_2 < (wrap64 ((l0.length : Int) - 1))) = false := decide_eq_false c75
                                    clear c75
                                    have H' := Aside0.mk H
                                    clear H
                                    have hcz77_0 : wc.cell? ⟨gb128, 0, none⟩ = some (.int .i64 ((rd_T27 l0 x25_2).f0)) := (blk_cell BK128.out 0).trans rfl
                                    have hcz77_1 : wc.cell? ⟨gb128, 1, none⟩ = some (.string ((rd_T27 l0 x25_2).f1)) := (blk_cell BK128.out 1).trans rfl
                                    have hcz77_2 : wc.cell? ⟨gb128, 2, none⟩ = some (.int .i64 ((rd_T27 l0 x25_2).f2)) := (blk_cell BK128.out 2).trans rfl
                                    have hcz77_3 : wc.cell? ⟨gb128, 3, none⟩ = some (.int .i64 ((rd_T27 l0 x25_2).f3)) := (blk_cell BK128.out 3).trans rfl
                                    have hcz77_4 : wc.cell? ⟨gb128, 4, none⟩ = some (.int .i64 ((rd_T27 l0 x25_2).f4)) := (blk_cell BK128.out 4).trans rfl
                                    have hfz77_0 := blk_frozen BK128.out 0
                                    have hfz77_1 := blk_frozen BK128.out 1
                                    have hfz77_2 := blk_frozen BK128.out 2
                                    have hfz77_3 := blk_frozen BK128.out 3
                                    have hfz77_4 := blk_frozen BK128.out 4
                                    go_wp2
                                    repeat (go_quiet (fail); try go_wp2)
                                    go_roundg kj11
                                    case measure => have := HJ2.out; have := HK2.out; have := HJ11.out; omega
                                    case rel => exact ⟨(wrap64 (x25_2 + 1)), (by first | rfl | (simp; done) | (simp [*]; done)), H', ⟨by have := HJ2.out; have := HK2.out; have := HJ11.out; omega⟩, ⟨by repeat (first | (with_reducible first | exact HB.out | apply below_alloc | apply pw_below_drewN | apply below_drew1 | refine below_set ?_ GE128.out) | exact HB.out)⟩⟩
                                · rw [if_neg c74] at H
                                  have c74b0 : (((rd_T27 l0 x25_2).f0) == 9) = false := beq_eq_false_iff_ne.mpr c74
                                  have c74b1 : (((rd_T27 l0 x25_2).f0) != 9) = true := bne_iff_ne.mpr c74
                                  obtain rfl := Option.some.inj H
                                  have hcz78_0 : wc.cell? ⟨gb128, 0, none⟩ = some (.int .i64 ((rd_T27 l0 x25_2).f0)) := (blk_cell BK128.out 0).trans rfl
                                  have hcz78_1 : wc.cell? ⟨gb128, 1, none⟩ = some (.string ((rd_T27 l0 x25_2).f1)) := (blk_cell BK128.out 1).trans rfl
                                  have hcz78_2 : wc.cell? ⟨gb128, 2, none⟩ = some (.int .i64 ((rd_T27 l0 x25_2).f2)) := (blk_cell BK128.out 2).trans rfl
                                  have hcz78_3 : wc.cell? ⟨gb128, 3, none⟩ = some (.int .i64 ((rd_T27 l0 x25_2).f3)) := (blk_cell BK128.out 3).trans rfl
                                  have hcz78_4 : wc.cell? ⟨gb128, 4, none⟩ = some (.int .i64 ((rd_T27 l0 x25_2).f4)) := (blk_cell BK128.out 4).trans rfl
                                  have hfz78_0 := blk_frozen BK128.out 0
                                  have hfz78_1 := blk_frozen BK128.out 1
                                  have hfz78_2 := blk_frozen BK128.out 2
                                  have hfz78_3 := blk_frozen BK128.out 3
                                  have hfz78_4 := blk_frozen BK128.out 4
                                  go_wp2
                                  repeat (go_quiet (fail); try go_wp2)
                                  go_ret
                                  exact ⟨by first | rfl | (simp [errW_none, errW_some] <;> rfl) | (simp [*, errW_none, errW_some] <;> rfl), by repeat (first | (with_reducible first | exact HB.out | apply below_alloc | apply pw_below_drewN | apply below_drew1 | refine below_set ?_ GE128.out) | exact HB.out)⟩
                          · rw [if_neg c19] at H
                            have c19b0 : decide (0 ≤ ((rd_T27 l0 x25_2).f0)) = false := decide_eq_false c19
                            clear c19
                            by_cases c79 : x25_2 > 0
                            · rw [if_pos c79] at H
                              have c79b0 : decide (0 < x25_2) = true := decide_eq_true c79
                              clear c79
                              obtain ⟨ji80, hji80⟩ : ∃ j_ : Int, (wrap64 (x25_2 - 1)) = j_ := ⟨_, rfl⟩
                              replace H : (if 0 ≤ (ji80) then (if (ji80) < (l0.length : Int) then (if ((rd_T27 l0 x25_2).f3) < ((rd_T27 l0 (ji80)).f3) then (if ((rd_T27 l0 x25_2).f0) = 9 then (if x25_2 < (wrap64 ((l0.length : Int) - 1)) then (some 3) else (some 3)) else (some 3)) else (if ((rd_T27 l0 x25_2).f3) = ((rd_T27 l0 (ji80)).f3) then (if ((rd_T27 l0 x25_2).f0) = 9 then (if x25_2 < (wrap64 ((l0.length : Int) - 1)) then (some 3) else (if ((rd_T27 l0 x25_2).f4) < ((rd_T27 l0 (ji80)).f4) then (some 3) else (provenancelaw1_tokensError.l0 kj11 l0 l0 (l0.length : Int) (wrap64 (x25_2 + 1))))) else (some 3)) else (if ((rd_T27 l0 x25_2).f0) = 9 then (if x25_2 < (wrap64 ((l0.length : Int) - 1)) then (some 3) else (provenancelaw1_tokensError.l0 kj11 l0 l0 (l0.length : Int) (wrap64 (x25_2 + 1)))) else (some 3)))) else (none)) else (none)) = some r := by first | (rw [hji80] at H; exact H) | (simp only [hji80] at H ⊢; exact H)
                              have hji80w : (IntKind.i64.wrap (x25_2 - 1)) = ji80 := (i64_w _).trans hji80
                              by_cases c81 : 0 ≤ (ji80)
                              · rw [if_pos c81] at H
                                have c81b0 : decide (0 ≤ (ji80)) = true := decide_eq_true c81
                                clear c81
                                by_cases c82 : (ji80) < (l0.length : Int)
                                · rw [if_pos c82] at H
                                  have c82b0 : decide ((ji80) < (l0.length : Int)) = true := decide_eq_true c82
                                  clear c82
                                  by_cases c83 : ((rd_T27 l0 x25_2).f3) < ((rd_T27 l0 (ji80)).f3)
                                  · rw [if_pos c83] at H
                                    have c83b0 : decide (((rd_T27 l0 x25_2).f3) < ((rd_T27 l0 (ji80)).f3)) = true := decide_eq_true c83
                                    clear c83
                                    by_cases c84 : ((rd_T27 l0 x25_2).f0) = 9
                                    · rw [if_pos c84] at H
                                      have c84b0 : (((rd_T27 l0 x25_2).f0) == 9) = true := beq_iff_eq.mpr c84
                                      have c84b1 : (((rd_T27 l0 x25_2).f0) != 9) = false := bne_eq_false_iff_eq.mpr c84
                                      clear c84
                                      by_cases c85 : x25_2 < (wrap64 ((l0.length : Int) - 1))
                                      · rw [if_pos c85] at H
                                        have c85b0 : decide (x25_2 < (wrap64 ((l0.length : Int) - 1))) = true := decide_eq_true c85
                                        clear c85
                                        obtain rfl := Option.some.inj H
                                        have hcz86_0 : wc.cell? ⟨gb128, 0, none⟩ = some (.int .i64 ((rd_T27 l0 x25_2).f0)) := (blk_cell BK128.out 0).trans rfl
                                        have hcz86_1 : wc.cell? ⟨gb128, 1, none⟩ = some (.string ((rd_T27 l0 x25_2).f1)) := (blk_cell BK128.out 1).trans rfl
                                        have hcz86_2 : wc.cell? ⟨gb128, 2, none⟩ = some (.int .i64 ((rd_T27 l0 x25_2).f2)) := (blk_cell BK128.out 2).trans rfl
                                        have hcz86_3 : wc.cell? ⟨gb128, 3, none⟩ = some (.int .i64 ((rd_T27 l0 x25_2).f3)) := (blk_cell BK128.out 3).trans rfl
                                        have hcz86_4 : wc.cell? ⟨gb128, 4, none⟩ = some (.int .i64 ((rd_T27 l0 x25_2).f4)) := (blk_cell BK128.out 4).trans rfl
                                        have hfz86_0 := blk_frozen BK128.out 0
                                        have hfz86_1 := blk_frozen BK128.out 1
                                        have hfz86_2 := blk_frozen BK128.out 2
                                        have hfz86_3 := blk_frozen BK128.out 3
                                        have hfz86_4 := blk_frozen BK128.out 4
                                        have p135 : 0 ≤ ((ji80) : Int) := of_decide_eq_true (by first | (with_reducible assumption) | assumption)
                                        have q135 : (ji80) < (l0.length : Int) := of_decide_eq_true (by first | (with_reducible assumption) | assumption)
                                        obtain ⟨ad135, e135, hx135_0, hx135_1, hx135_2, hx135_3, hx135_4⟩ := at_T27 HR0.out (ji80) p135 q135
                                        obtain rfl : ad127 = ad135 := (by injection e135)
                                        replace hx135_0 := (HB.out.cell (World.block_lt_of_cell? w _ hx135_0)).trans hx135_0
                                        replace hx135_1 := (HB.out.cell (World.block_lt_of_cell? w _ hx135_1)).trans hx135_1
                                        replace hx135_2 := (HB.out.cell (World.block_lt_of_cell? w _ hx135_2)).trans hx135_2
                                        replace hx135_3 := (HB.out.cell (World.block_lt_of_cell? w _ hx135_3)).trans hx135_3
                                        replace hx135_4 := (HB.out.cell (World.block_lt_of_cell? w _ hx135_4)).trans hx135_4
                                        replace p135 := eq_true p135
                                        replace q135 := eq_true q135
                                        go_wp2
                                        repeat (go_quiet (fail); try go_wp2)
                                        go_ret
                                        exact ⟨by first | rfl | (simp [errW_none, errW_some] <;> rfl) | (simp only [← hji80]; first | rfl | (simp [errW_none, errW_some] <;> rfl)) | (simp [*, errW_none, errW_some] <;> rfl), by repeat (first | (with_reducible first | exact HB.out | apply below_alloc | apply pw_below_drewN | apply below_drew1 | refine below_set ?_ GE128.out) | exact HB.out)⟩
                                      · rw [if_neg c85] at H
                                        have c85b0 : decide (x25_2 < (wrap64 ((l0.length : Int) - 1))) = false := decide_eq_false c85
                                        clear c85
                                        obtain rfl := Option.some.inj H
                                        have hcz87_0 : wc.cell? ⟨gb128, 0, none⟩ = some (.int .i64 ((rd_T27 l0 x25_2).f0)) := (blk_cell BK128.out 0).trans rfl
                                        have hcz87_1 : wc.cell? ⟨gb128, 1, none⟩ = some (.string ((rd_T27 l0 x25_2).f1)) := (blk_cell BK128.out 1).trans rfl
                                        have hcz87_2 : wc.cell? ⟨gb128, 2, none⟩ = some (.int .i64 ((rd_T27 l0 x25_2).f2)) := (blk_cell BK128.out 2).trans rfl
                                        have hcz87_3 : wc.cell? ⟨gb128, 3, none⟩ = some (.int .i64 ((rd_T27 l0 x25_2).f3)) := (blk_cell BK128.out 3).trans rfl
                                        have hcz87_4 : wc.cell? ⟨gb128, 4, none⟩ = some (.int .i64 ((rd_T27 l0 x25_2).f4)) := (blk_cell BK128.out 4).trans rfl
                                        have hfz87_0 := blk_frozen BK128.out 0
                                        have hfz87_1 := blk_frozen BK128.out 1
                                        have hfz87_2 := blk_frozen BK128.out 2
                                        have hfz87_3 := blk_frozen BK128.out 3
                                        have hfz87_4 := blk_frozen BK128.out 4
                                        have p135 : 0 ≤ ((ji80) : Int) := of_decide_eq_true (by first | (with_reducible assumption) | assumption)
                                        have q135 : (ji80) < (l0.length : Int) := of_decide_eq_true (by first | (with_reducible assumption) | assumption)
                                        obtain ⟨ad135, e135, hx135_0, hx135_1, hx135_2, hx135_3, hx135_4⟩ := at_T27 HR0.out (ji80) p135 q135
                                        obtain rfl : ad127 = ad135 := (by injection e135)
                                        replace hx135_0 := (HB.out.cell (World.block_lt_of_cell? w _ hx135_0)).trans hx135_0
                                        replace hx135_1 := (HB.out.cell (World.block_lt_of_cell? w _ hx135_1)).trans hx135_1
                                        replace hx135_2 := (HB.out.cell (World.block_lt_of_cell? w _ hx135_2)).trans hx135_2
                                        replace hx135_3 := (HB.out.cell (World.block_lt_of_cell? w _ hx135_3)).trans hx135_3
                                        replace hx135_4 := (HB.out.cell (World.block_lt_of_cell? w _ hx135_4)).trans hx135_4
                                        replace p135 := eq_true p135
                                        replace q135 := eq_true q135
                                        go_wp2
                                        repeat (go_quiet (fail); try go_wp2)
                                        go_ret
                                        exact ⟨by first | rfl | (simp [errW_none, errW_some] <;> rfl) | (simp only [← hji80]; first | rfl | (simp [errW_none, errW_some] <;> rfl)) | (simp [*, errW_none, errW_some] <;> rfl), by repeat (first | (with_reducible first | exact HB.out | apply below_alloc | apply pw_below_drewN | apply below_drew1 | refine below_set ?_ GE128.out) | exact HB.out)⟩
                                    · rw [if_neg c84] at H
                                      have c84b0 : (((rd_T27 l0 x25_2).f0) == 9) = false := beq_eq_false_iff_ne.mpr c84
                                      have c84b1 : (((rd_T27 l0 x25_2).f0) != 9) = true := bne_iff_ne.mpr c84
                                      obtain rfl := Option.some.inj H
                                      have hcz88_0 : wc.cell? ⟨gb128, 0, none⟩ = some (.int .i64 ((rd_T27 l0 x25_2).f0)) := (blk_cell BK128.out 0).trans rfl
                                      have hcz88_1 : wc.cell? ⟨gb128, 1, none⟩ = some (.string ((rd_T27 l0 x25_2).f1)) := (blk_cell BK128.out 1).trans rfl
                                      have hcz88_2 : wc.cell? ⟨gb128, 2, none⟩ = some (.int .i64 ((rd_T27 l0 x25_2).f2)) := (blk_cell BK128.out 2).trans rfl
                                      have hcz88_3 : wc.cell? ⟨gb128, 3, none⟩ = some (.int .i64 ((rd_T27 l0 x25_2).f3)) := (blk_cell BK128.out 3).trans rfl
                                      have hcz88_4 : wc.cell? ⟨gb128, 4, none⟩ = some (.int .i64 ((rd_T27 l0 x25_2).f4)) := (blk_cell BK128.out 4).trans rfl
                                      have hfz88_0 := blk_frozen BK128.out 0
                                      have hfz88_1 := blk_frozen BK128.out 1
                                      have hfz88_2 := blk_frozen BK128.out 2
                                      have hfz88_3 := blk_frozen BK128.out 3
                                      have hfz88_4 := blk_frozen BK128.out 4
                                      have p135 : 0 ≤ ((ji80) : Int) := of_decide_eq_true (by first | (with_reducible assumption) | assumption)
                                      have q135 : (ji80) < (l0.length : Int) := of_decide_eq_true (by first | (with_reducible assumption) | assumption)
                                      obtain ⟨ad135, e135, hx135_0, hx135_1, hx135_2, hx135_3, hx135_4⟩ := at_T27 HR0.out (ji80) p135 q135
                                      obtain rfl : ad127 = ad135 := (by injection e135)
                                      replace hx135_0 := (HB.out.cell (World.block_lt_of_cell? w _ hx135_0)).trans hx135_0
                                      replace hx135_1 := (HB.out.cell (World.block_lt_of_cell? w _ hx135_1)).trans hx135_1
                                      replace hx135_2 := (HB.out.cell (World.block_lt_of_cell? w _ hx135_2)).trans hx135_2
                                      replace hx135_3 := (HB.out.cell (World.block_lt_of_cell? w _ hx135_3)).trans hx135_3
                                      replace hx135_4 := (HB.out.cell (World.block_lt_of_cell? w _ hx135_4)).trans hx135_4
                                      replace p135 := eq_true p135
                                      replace q135 := eq_true q135
                                      go_wp2
                                      repeat (go_quiet (fail); try go_wp2)
                                      go_ret
                                      exact ⟨by first | rfl | (simp [errW_none, errW_some] <;> rfl) | (simp only [← hji80]; first | rfl | (simp [errW_none, errW_some] <;> rfl)) | (simp [*, errW_none, errW_some] <;> rfl), by repeat (first | (with_reducible first | exact HB.out | apply below_alloc | apply pw_below_drewN | apply below_drew1 | refine below_set ?_ GE128.out) | exact HB.out)⟩
                                  · rw [if_neg c83] at H
                                    have c83b0 : decide (((rd_T27 l0 x25_2).f3) < ((rd_T27 l0 (ji80)).f3)) = false := decide_eq_false c83
                                    clear c83
                                    by_cases c89 : ((rd_T27 l0 x25_2).f3) = ((rd_T27 l0 (ji80)).f3)
                                    · rw [if_pos c89] at H
                                      have c89b0 : (((rd_T27 l0 x25_2).f3) == ((rd_T27 l0 (ji80)).f3)) = true := beq_iff_eq.mpr c89
                                      have c89b1 : (((rd_T27 l0 x25_2).f3) != ((rd_T27 l0 (ji80)).f3)) = false := bne_eq_false_iff_eq.mpr c89
                                      clear c89
                                      by_cases c90 : ((rd_T27 l0 x25_2).f0) = 9
                                      · rw [if_pos c90] at H
                                        have c90b0 : (((rd_T27 l0 x25_2).f0) == 9) = true := beq_iff_eq.mpr c90
                                        have c90b1 : (((rd_T27 l0 x25_2).f0) != 9) = false := bne_eq_false_iff_eq.mpr c90
                                        clear c90
                                        by_cases c91 : x25_2 < (wrap64 ((l0.length : Int) - 1))
                                        · rw [if_pos c91] at H
                                          have c91b0 : decide (x25_2 < (wrap64 ((l0.length : Int) - 1))) = true := decide_eq_true c91
                                          clear c91
                                          obtain rfl := Option.some.inj H
                                          have hcz92_0 : wc.cell? ⟨gb128, 0, none⟩ = some (.int .i64 ((rd_T27 l0 x25_2).f0)) := (blk_cell BK128.out 0).trans rfl
                                          have hcz92_1 : wc.cell? ⟨gb128, 1, none⟩ = some (.string ((rd_T27 l0 x25_2).f1)) := (blk_cell BK128.out 1).trans rfl
                                          have hcz92_2 : wc.cell? ⟨gb128, 2, none⟩ = some (.int .i64 ((rd_T27 l0 x25_2).f2)) := (blk_cell BK128.out 2).trans rfl
                                          have hcz92_3 : wc.cell? ⟨gb128, 3, none⟩ = some (.int .i64 ((rd_T27 l0 x25_2).f3)) := (blk_cell BK128.out 3).trans rfl
                                          have hcz92_4 : wc.cell? ⟨gb128, 4, none⟩ = some (.int .i64 ((rd_T27 l0 x25_2).f4)) := (blk_cell BK128.out 4).trans rfl
                                          have hfz92_0 := blk_frozen BK128.out 0
                                          have hfz92_1 := blk_frozen BK128.out 1
                                          have hfz92_2 := blk_frozen BK128.out 2
                                          have hfz92_3 := blk_frozen BK128.out 3
                                          have hfz92_4 := blk_frozen BK128.out 4
                                          have p135 : 0 ≤ ((ji80) : Int) := of_decide_eq_true (by first | (with_reducible assumption) | assumption)
                                          have q135 : (ji80) < (l0.length : Int) := of_decide_eq_true (by first | (with_reducible assumption) | assumption)
                                          obtain ⟨ad135, e135, hx135_0, hx135_1, hx135_2, hx135_3, hx135_4⟩ := at_T27 HR0.out (ji80) p135 q135
                                          obtain rfl : ad127 = ad135 := (by injection e135)
                                          replace hx135_0 := (HB.out.cell (World.block_lt_of_cell? w _ hx135_0)).trans hx135_0
                                          replace hx135_1 := (HB.out.cell (World.block_lt_of_cell? w _ hx135_1)).trans hx135_1
                                          replace hx135_2 := (HB.out.cell (World.block_lt_of_cell? w _ hx135_2)).trans hx135_2
                                          replace hx135_3 := (HB.out.cell (World.block_lt_of_cell? w _ hx135_3)).trans hx135_3
                                          replace hx135_4 := (HB.out.cell (World.block_lt_of_cell? w _ hx135_4)).trans hx135_4
                                          replace p135 := eq_true p135
                                          replace q135 := eq_true q135
                                          have p136 : 0 ≤ ((ji80) : Int) := of_decide_eq_true (by first | (with_reducible assumption) | assumption)
                                          have q136 : (ji80) < (l0.length : Int) := of_decide_eq_true (by first | (with_reducible assumption) | assumption)
                                          obtain ⟨ad136, e136, hx136_0, hx136_1, hx136_2, hx136_3, hx136_4⟩ := at_T27 HR0.out (ji80) p136 q136
                                          obtain rfl : ad127 = ad136 := (by injection e136)
                                          replace hx136_0 := (HB.out.cell (World.block_lt_of_cell? w _ hx136_0)).trans hx136_0
                                          replace hx136_1 := (HB.out.cell (World.block_lt_of_cell? w _ hx136_1)).trans hx136_1
                                          replace hx136_2 := (HB.out.cell (World.block_lt_of_cell? w _ hx136_2)).trans hx136_2
                                          replace hx136_3 := (HB.out.cell (World.block_lt_of_cell? w _ hx136_3)).trans hx136_3
                                          replace hx136_4 := (HB.out.cell (World.block_lt_of_cell? w _ hx136_4)).trans hx136_4
                                          replace p136 := eq_true p136
                                          replace q136 := eq_true q136
                                          have p137 : 0 ≤ ((ji80) : Int) := of_decide_eq_true (by first | (with_reducible assumption) | assumption)
                                          have q137 : (ji80) < (l0.length : Int) := of_decide_eq_true (by first | (with_reducible assumption) | assumption)
                                          obtain ⟨ad137, e137, hx137_0, hx137_1, hx137_2, hx137_3, hx137_4⟩ := at_T27 HR0.out (ji80) p137 q137
                                          obtain rfl : ad127 = ad137 := (by injection e137)
                                          replace hx137_0 := (HB.out.cell (World.block_lt_of_cell? w _ hx137_0)).trans hx137_0
                                          replace hx137_1 := (HB.out.cell (World.block_lt_of_cell? w _ hx137_1)).trans hx137_1
                                          replace hx137_2 := (HB.out.cell (World.block_lt_of_cell? w _ hx137_2)).trans hx137_2
                                          replace hx137_3 := (HB.out.cell (World.block_lt_of_cell? w _ hx137_3)).trans hx137_3
                                          replace hx137_4 := (HB.out.cell (World.block_lt_of_cell? w _ hx137_4)).trans hx137_4
                                          replace p137 := eq_true p137
                                          replace q137 := eq_true q137
                                          go_wp2
                                          repeat (go_quiet (fail); try go_wp2)
                                          go_ret
                                          exact ⟨by first | rfl | (simp [errW_none, errW_some] <;> rfl) | (simp only [← hji80]; first | rfl | (simp [errW_none, errW_some] <;> rfl)) | (simp [*, errW_none, errW_some] <;> rfl), by repeat (first | (with_reducible first | exact HB.out | apply below_alloc | apply pw_below_drewN | apply below_drew1 | refine below_set ?_ GE128.out) | exact HB.out)⟩
                                        · rw [if_neg c91] at H
                                          have c91b0 : decide (x25_2 < (wrap64 ((l0.length : Int) - 1))) = false := decide_eq_false c91
                                          clear c91
                                          by_cases c93 : ((rd_T27 l0 x25_2).f4) < ((rd_T27 l0 (ji80)).f4)
                                          · rw [if_pos c93] at H
                                            have c93b0 : decide (((rd_T27 l0 x25_2).f4) < ((rd_T27 l0 (ji80)).f4)) = true := decide_eq_true c93
                                            clear c93
                                            obtain rfl := Option.some.inj H
                                            have hcz94_0 : wc.cell? ⟨gb128, 0, none⟩ = some (.int .i64 ((rd_T27 l0 x25_2).f0)) := (blk_cell BK128.out 0).trans rfl
                                            have hcz94_1 : wc.cell? ⟨gb128, 1, none⟩ = some (.string ((rd_T27 l0 x25_2).f1)) := (blk_cell BK128.out 1).trans rfl
                                            have hcz94_2 : wc.cell? ⟨gb128, 2, none⟩ = some (.int .i64 ((rd_T27 l0 x25_2).f2)) := (blk_cell BK128.out 2).trans rfl
                                            have hcz94_3 : wc.cell? ⟨gb128, 3, none⟩ = some (.int .i64 ((rd_T27 l0 x25_2).f3)) := (blk_cell BK128.out 3).trans rfl
                                            have hcz94_4 : wc.cell? ⟨gb128, 4, none⟩ = some (.int .i64 ((rd_T27 l0 x25_2).f4)) := (blk_cell BK128.out 4).trans rfl
                                            have hfz94_0 := blk_frozen BK128.out 0
                                            have hfz94_1 := blk_frozen BK128.out 1
                                            have hfz94_2 := blk_frozen BK128.out 2
                                            have hfz94_3 := blk_frozen BK128.out 3
                                            have hfz94_4 := blk_frozen BK128.out 4
                                            have p135 : 0 ≤ ((ji80) : Int) := of_decide_eq_true (by first | (with_reducible assumption) | assumption)
                                            have q135 : (ji80) < (l0.length : Int) := of_decide_eq_true (by first | (with_reducible assumption) | assumption)
                                            obtain ⟨ad135, e135, hx135_0, hx135_1, hx135_2, hx135_3, hx135_4⟩ := at_T27 HR0.out (ji80) p135 q135
                                            obtain rfl : ad127 = ad135 := (by injection e135)
                                            replace hx135_0 := (HB.out.cell (World.block_lt_of_cell? w _ hx135_0)).trans hx135_0
                                            replace hx135_1 := (HB.out.cell (World.block_lt_of_cell? w _ hx135_1)).trans hx135_1
                                            replace hx135_2 := (HB.out.cell (World.block_lt_of_cell? w _ hx135_2)).trans hx135_2
                                            replace hx135_3 := (HB.out.cell (World.block_lt_of_cell? w _ hx135_3)).trans hx135_3
                                            replace hx135_4 := (HB.out.cell (World.block_lt_of_cell? w _ hx135_4)).trans hx135_4
                                            replace p135 := eq_true p135
                                            replace q135 := eq_true q135
                                            have p136 : 0 ≤ ((ji80) : Int) := of_decide_eq_true (by first | (with_reducible assumption) | assumption)
                                            have q136 : (ji80) < (l0.length : Int) := of_decide_eq_true (by first | (with_reducible assumption) | assumption)
                                            obtain ⟨ad136, e136, hx136_0, hx136_1, hx136_2, hx136_3, hx136_4⟩ := at_T27 HR0.out (ji80) p136 q136
                                            obtain rfl : ad127 = ad136 := (by injection e136)
                                            replace hx136_0 := (HB.out.cell (World.block_lt_of_cell? w _ hx136_0)).trans hx136_0
                                            replace hx136_1 := (HB.out.cell (World.block_lt_of_cell? w _ hx136_1)).trans hx136_1
                                            replace hx136_2 := (HB.out.cell (World.block_lt_of_cell? w _ hx136_2)).trans hx136_2
                                            replace hx136_3 := (HB.out.cell (World.block_lt_of_cell? w _ hx136_3)).trans hx136_3
                                            replace hx136_4 := (HB.out.cell (World.block_lt_of_cell? w _ hx136_4)).trans hx136_4
                                            replace p136 := eq_true p136
                                            replace q136 := eq_true q136
                                            have p137 : 0 ≤ ((ji80) : Int) := of_decide_eq_true (by first | (with_reducible assumption) | assumption)
                                            have q137 : (ji80) < (l0.length : Int) := of_decide_eq_true (by first | (with_reducible assumption) | assumption)
                                            obtain ⟨ad137, e137, hx137_0, hx137_1, hx137_2, hx137_3, hx137_4⟩ := at_T27 HR0.out (ji80) p137 q137
                                            obtain rfl : ad127 = ad137 := (by injection e137)
                                            replace hx137_0 := (HB.out.cell (World.block_lt_of_cell? w _ hx137_0)).trans hx137_0
                                            replace hx137_1 := (HB.out.cell (World.block_lt_of_cell? w _ hx137_1)).trans hx137_1
                                            replace hx137_2 := (HB.out.cell (World.block_lt_of_cell? w _ hx137_2)).trans hx137_2
                                            replace hx137_3 := (HB.out.cell (World.block_lt_of_cell? w _ hx137_3)).trans hx137_3
                                            replace hx137_4 := (HB.out.cell (World.block_lt_of_cell? w _ hx137_4)).trans hx137_4
                                            replace p137 := eq_true p137
                                            replace q137 := eq_true q137
                                            go_wp2
                                            repeat (go_quiet (fail); try go_wp2)
                                            go_ret
                                            exact ⟨by first | rfl | (simp [errW_none, errW_some] <;> rfl) | (simp only [← hji80]; first | rfl | (simp [errW_none, errW_some] <;> rfl)) | (simp [*, errW_none, errW_some] <;> rfl), by repeat (first | (with_reducible first | exact HB.out | apply below_alloc | apply pw_below_drewN | apply below_drew1 | refine below_set ?_ GE128.out) | exact HB.out)⟩
                                          · rw [if_neg c93] at H
                                            have c93b0 : decide (((rd_T27 l0 x25_2).f4) < ((rd_T27 l0 (ji80)).f4)) = false := decide_eq_false c93
                                            clear c93
                                            have H' := Aside0.mk H
                                            clear H
                                            have hcz95_0 : wc.cell? ⟨gb128, 0, none⟩ = some (.int .i64 ((rd_T27 l0 x25_2).f0)) := (blk_cell BK128.out 0).trans rfl
                                            have hcz95_1 : wc.cell? ⟨gb128, 1, none⟩ = some (.string ((rd_T27 l0 x25_2).f1)) := (blk_cell BK128.out 1).trans rfl
                                            have hcz95_2 : wc.cell? ⟨gb128, 2, none⟩ = some (.int .i64 ((rd_T27 l0 x25_2).f2)) := (blk_cell BK128.out 2).trans rfl
                                            have hcz95_3 : wc.cell? ⟨gb128, 3, none⟩ = some (.int .i64 ((rd_T27 l0 x25_2).f3)) := (blk_cell BK128.out 3).trans rfl
                                            have hcz95_4 : wc.cell? ⟨gb128, 4, none⟩ = some (.int .i64 ((rd_T27 l0 x25_2).f4)) := (blk_cell BK128.out 4).trans rfl
                                            have hfz95_0 := blk_frozen BK128.out 0
                                            have hfz95_1 := blk_frozen BK128.out 1
                                            have hfz95_2 := blk_frozen BK128.out 2
                                            have hfz95_3 := blk_frozen BK128.out 3
                                            have hfz95_4 := blk_frozen BK128.out 4
                                            have p135 : 0 ≤ ((ji80) : Int) := of_decide_eq_true (by first | (with_reducible assumption) | assumption)
                                            have q135 : (ji80) < (l0.length : Int) := of_decide_eq_true (by first | (with_reducible assumption) | assumption)
                                            obtain ⟨ad135, e135, hx135_0, hx135_1, hx135_2, hx135_3, hx135_4⟩ := at_T27 HR0.out (ji80) p135 q135
                                            obtain rfl : ad127 = ad135 := (by injection e135)
                                            replace hx135_0 := (HB.out.cell (World.block_lt_of_cell? w _ hx135_0)).trans hx135_0
                                            replace hx135_1 := (HB.out.cell (World.block_lt_of_cell? w _ hx135_1)).trans hx135_1
                                            replace hx135_2 := (HB.out.cell (World.block_lt_of_cell? w _ hx135_2)).trans hx135_2
                                            replace hx135_3 := (HB.out.cell (World.block_lt_of_cell? w _ hx135_3)).trans hx135_3
                                            replace hx135_4 := (HB.out.cell (World.block_lt_of_cell? w _ hx135_4)).trans hx135_4
                                            replace p135 := eq_true p135
                                            replace q135 := eq_true q135
                                            have p136 : 0 ≤ ((ji80) : Int) := of_decide_eq_true (by first | (with_reducible assumption) | assumption)
                                            have q136 : (ji80) < (l0.length : Int) := of_decide_eq_true (by first | (with_reducible assumption) | assumption)
                                            obtain ⟨ad136, e136, hx136_0, hx136_1, hx136_2, hx136_3, hx136_4⟩ := at_T27 HR0.out (ji80) p136 q136
                                            obtain rfl : ad127 = ad136 := (by injection e136)
                                            replace hx136_0 := (HB.out.cell (World.block_lt_of_cell? w _ hx136_0)).trans hx136_0
                                            replace hx136_1 := (HB.out.cell (World.block_lt_of_cell? w _ hx136_1)).trans hx136_1
                                            replace hx136_2 := (HB.out.cell (World.block_lt_of_cell? w _ hx136_2)).trans hx136_2
                                            replace hx136_3 := (HB.out.cell (World.block_lt_of_cell? w _ hx136_3)).trans hx136_3
                                            replace hx136_4 := (HB.out.cell (World.block_lt_of_cell? w _ hx136_4)).trans hx136_4
                                            replace p136 := eq_true p136
                                            replace q136 := eq_true q136
                                            have p137 : 0 ≤ ((ji80) : Int) := of_decide_eq_true (by first | (with_reducible assumption) | assumption)
                                            have q137 : (ji80) < (l0.length : Int) := of_decide_eq_true (by first | (with_reducible assumption) | assumption)
                                            obtain ⟨ad137, e137, hx137_0, hx137_1, hx137_2, hx137_3, hx137_4⟩ := at_T27 HR0.out (ji80) p137 q137
                                            obtain rfl : ad127 = ad137 := (by injection e137)
                                            replace hx137_0 := (HB.out.cell (World.block_lt_of_cell? w _ hx137_0)).trans hx137_0
                                            replace hx137_1 := (HB.out.cell (World.block_lt_of_cell? w _ hx137_1)).trans hx137_1
                                            replace hx137_2 := (HB.out.cell (World.block_lt_of_cell? w _ hx137_2)).trans hx137_2
                                            replace hx137_3 := (HB.out.cell (World.block_lt_of_cell? w _ hx137_3)).trans hx137_3
                                            replace hx137_4 := (HB.out.cell (World.block_lt_of_cell? w _ hx137_4)).trans hx137_4
                                            replace p137 := eq_true p137
                                            replace q137 := eq_true q137
                                            go_wp2
                                            repeat (go_quiet (fail); try go_wp2)
                                            go_roundg kj11
                                            case measure => have := HJ2.out; have := HK2.out; have := HJ11.out; omega
                                            case rel => exact ⟨(wrap64 (x25_2 + 1)), (by first | rfl | (simp; done) | (simp [*]; done)), H', ⟨by have := HJ2.out; have := HK2.out; have := HJ11.out; omega⟩, ⟨by repeat (first | (with_reducible first | exact HB.out | apply below_alloc | apply pw_below_drewN | apply below_drew1 | refine below_set ?_ GE128.out) | exact HB.out)⟩⟩
                                      · rw [if_neg c90] at H
                                        have c90b0 : (((rd_T27 l0 x25_2).f0) == 9) = false := beq_eq_false_iff_ne.mpr c90
                                        have c90b1 : (((rd_T27 l0 x25_2).f0) != 9) = true := bne_iff_ne.mpr c90
                                        obtain rfl := Option.some.inj H
                                        have hcz96_0 : wc.cell? ⟨gb128, 0, none⟩ = some (.int .i64 ((rd_T27 l0 x25_2).f0)) := (blk_cell BK128.out 0).trans rfl
                                        have hcz96_1 : wc.cell? ⟨gb128, 1, none⟩ = some (.string ((rd_T27 l0 x25_2).f1)) := (blk_cell BK128.out 1).trans rfl
                                        have hcz96_2 : wc.cell? ⟨gb128, 2, none⟩ = some (.int .i64 ((rd_T27 l0 x25_2).f2)) := (blk_cell BK128.out 2).trans rfl
                                        have hcz96_3 : wc.cell? ⟨gb128, 3, none⟩ = some (.int .i64 ((rd_T27 l0 x25_2).f3)) := (blk_cell BK128.out 3).trans rfl
                                        have hcz96_4 : wc.cell? ⟨gb128, 4, none⟩ = some (.int .i64 ((rd_T27 l0 x25_2).f4)) := (blk_cell BK128.out 4).trans rfl
                                        have hfz96_0 := blk_frozen BK128.out 0
                                        have hfz96_1 := blk_frozen BK128.out 1
                                        have hfz96_2 := blk_frozen BK128.out 2
                                        have hfz96_3 := blk_frozen BK128.out 3
                                        have hfz96_4 := blk_frozen BK128.out 4
                                        have p135 : 0 ≤ ((ji80) : Int) := of_decide_eq_true (by first | (with_reducible assumption) | assumption)
                                        have q135 : (ji80) < (l0.length : Int) := of_decide_eq_true (by first | (with_reducible assumption) | assumption)
                                        obtain ⟨ad135, e135, hx135_0, hx135_1, hx135_2, hx135_3, hx135_4⟩ := at_T27 HR0.out (ji80) p135 q135
                                        obtain rfl : ad127 = ad135 := (by injection e135)
                                        replace hx135_0 := (HB.out.cell (World.block_lt_of_cell? w _ hx135_0)).trans hx135_0
                                        replace hx135_1 := (HB.out.cell (World.block_lt_of_cell? w _ hx135_1)).trans hx135_1
                                        replace hx135_2 := (HB.out.cell (World.block_lt_of_cell? w _ hx135_2)).trans hx135_2
                                        replace hx135_3 := (HB.out.cell (World.block_lt_of_cell? w _ hx135_3)).trans hx135_3
                                        replace hx135_4 := (HB.out.cell (World.block_lt_of_cell? w _ hx135_4)).trans hx135_4
                                        replace p135 := eq_true p135
                                        replace q135 := eq_true q135
                                        have p136 : 0 ≤ ((ji80) : Int) := of_decide_eq_true (by first | (with_reducible assumption) | assumption)
                                        have q136 : (ji80) < (l0.length : Int) := of_decide_eq_true (by first | (with_reducible assumption) | assumption)
                                        obtain ⟨ad136, e136, hx136_0, hx136_1, hx136_2, hx136_3, hx136_4⟩ := at_T27 HR0.out (ji80) p136 q136
                                        obtain rfl : ad127 = ad136 := (by injection e136)
                                        replace hx136_0 := (HB.out.cell (World.block_lt_of_cell? w _ hx136_0)).trans hx136_0
                                        replace hx136_1 := (HB.out.cell (World.block_lt_of_cell? w _ hx136_1)).trans hx136_1
                                        replace hx136_2 := (HB.out.cell (World.block_lt_of_cell? w _ hx136_2)).trans hx136_2
                                        replace hx136_3 := (HB.out.cell (World.block_lt_of_cell? w _ hx136_3)).trans hx136_3
                                        replace hx136_4 := (HB.out.cell (World.block_lt_of_cell? w _ hx136_4)).trans hx136_4
                                        replace p136 := eq_true p136
                                        replace q136 := eq_true q136
                                        have p137 : 0 ≤ ((ji80) : Int) := of_decide_eq_true (by first | (with_reducible assumption) | assumption)
                                        have q137 : (ji80) < (l0.length : Int) := of_decide_eq_true (by first | (with_reducible assumption) | assumption)
                                        obtain ⟨ad137, e137, hx137_0, hx137_1, hx137_2, hx137_3, hx137_4⟩ := at_T27 HR0.out (ji80) p137 q137
                                        obtain rfl : ad127 = ad137 := (by injection e137)
                                        replace hx137_0 := (HB.out.cell (World.block_lt_of_cell? w _ hx137_0)).trans hx137_0
                                        replace hx137_1 := (HB.out.cell (World.block_lt_of_cell? w _ hx137_1)).trans hx137_1
                                        replace hx137_2 := (HB.out.cell (World.block_lt_of_cell? w _ hx137_2)).trans hx137_2
                                        replace hx137_3 := (HB.out.cell (World.block_lt_of_cell? w _ hx137_3)).trans hx137_3
                                        replace hx137_4 := (HB.out.cell (World.block_lt_of_cell? w _ hx137_4)).trans hx137_4
                                        replace p137 := eq_true p137
                                        replace q137 := eq_true q137
                                        go_wp2
                                        repeat (go_quiet (fail); try go_wp2)
                                        go_ret
                                        exact ⟨by first | rfl | (simp [errW_none, errW_some] <;> rfl) | (simp only [← hji80]; first | rfl | (simp [errW_none, errW_some] <;> rfl)) | (simp [*, errW_none, errW_some] <;> rfl), by repeat (first | (with_reducible first | exact HB.out | apply below_alloc | apply pw_below_drewN | apply below_drew1 | refine below_set ?_ GE128.out) | exact HB.out)⟩
                                    · rw [if_neg c89] at H
                                      have c89b0 : (((rd_T27 l0 x25_2).f3) == ((rd_T27 l0 (ji80)).f3)) = false := beq_eq_false_iff_ne.mpr c89
                                      have c89b1 : (((rd_T27 l0 x25_2).f3) != ((rd_T27 l0 (ji80)).f3)) = true := bne_iff_ne.mpr c89
                                      by_cases c97 : ((rd_T27 l0 x25_2).f0) = 9
                                      · rw [if_pos c97] at H
                                        have c97b0 : (((rd_T27 l0 x25_2).f0) == 9) = true := beq_iff_eq.mpr c97
                                        have c97b1 : (((rd_T27 l0 x25_2).f0) != 9) = false := bne_eq_false_iff_eq.mpr c97
                                        clear c97
                                        by_cases c98 : x25_2 < (wrap64 ((l0.length : Int) - 1))
                                        · rw [if_pos c98] at H
                                          have c98b0 : decide (x25_2 < (wrap64 ((l0.length : Int) - 1))) = true := decide_eq_true c98
                                          clear c98
                                          obtain rfl := Option.some.inj H
                                          have hcz99_0 : wc.cell? ⟨gb128, 0, none⟩ = some (.int .i64 ((rd_T27 l0 x25_2).f0)) := (blk_cell BK128.out 0).trans rfl
                                          have hcz99_1 : wc.cell? ⟨gb128, 1, none⟩ = some (.string ((rd_T27 l0 x25_2).f1)) := (blk_cell BK128.out 1).trans rfl
                                          have hcz99_2 : wc.cell? ⟨gb128, 2, none⟩ = some (.int .i64 ((rd_T27 l0 x25_2).f2)) := (blk_cell BK128.out 2).trans rfl
                                          have hcz99_3 : wc.cell? ⟨gb128, 3, none⟩ = some (.int .i64 ((rd_T27 l0 x25_2).f3)) := (blk_cell BK128.out 3).trans rfl
                                          have hcz99_4 : wc.cell? ⟨gb128, 4, none⟩ = some (.int .i64 ((rd_T27 l0 x25_2).f4)) := (blk_cell BK128.out 4).trans rfl
                                          have hfz99_0 := blk_frozen BK128.out 0
                                          have hfz99_1 := blk_frozen BK128.out 1
                                          have hfz99_2 := blk_frozen BK128.out 2
                                          have hfz99_3 := blk_frozen BK128.out 3
                                          have hfz99_4 := blk_frozen BK128.out 4
                                          have p135 : 0 ≤ ((ji80) : Int) := of_decide_eq_true (by first | (with_reducible assumption) | assumption)
                                          have q135 : (ji80) < (l0.length : Int) := of_decide_eq_true (by first | (with_reducible assumption) | assumption)
                                          obtain ⟨ad135, e135, hx135_0, hx135_1, hx135_2, hx135_3, hx135_4⟩ := at_T27 HR0.out (ji80) p135 q135
                                          obtain rfl : ad127 = ad135 := (by injection e135)
                                          replace hx135_0 := (HB.out.cell (World.block_lt_of_cell? w _ hx135_0)).trans hx135_0
                                          replace hx135_1 := (HB.out.cell (World.block_lt_of_cell? w _ hx135_1)).trans hx135_1
                                          replace hx135_2 := (HB.out.cell (World.block_lt_of_cell? w _ hx135_2)).trans hx135_2
                                          replace hx135_3 := (HB.out.cell (World.block_lt_of_cell? w _ hx135_3)).trans hx135_3
                                          replace hx135_4 := (HB.out.cell (World.block_lt_of_cell? w _ hx135_4)).trans hx135_4
                                          replace p135 := eq_true p135
                                          replace q135 := eq_true q135
                                          have p136 : 0 ≤ ((ji80) : Int) := of_decide_eq_true (by first | (with_reducible assumption) | assumption)
                                          have q136 : (ji80) < (l0.length : Int) := of_decide_eq_true (by first | (with_reducible assumption) | assumption)
                                          obtain ⟨ad136, e136, hx136_0, hx136_1, hx136_2, hx136_3, hx136_4⟩ := at_T27 HR0.out (ji80) p136 q136
                                          obtain rfl : ad127 = ad136 := (by injection e136)
                                          replace hx136_0 := (HB.out.cell (World.block_lt_of_cell? w _ hx136_0)).trans hx136_0
                                          replace hx136_1 := (HB.out.cell (World.block_lt_of_cell? w _ hx136_1)).trans hx136_1
                                          replace hx136_2 := (HB.out.cell (World.block_lt_of_cell? w _ hx136_2)).trans hx136_2
                                          replace hx136_3 := (HB.out.cell (World.block_lt_of_cell? w _ hx136_3)).trans hx136_3
                                          replace hx136_4 := (HB.out.cell (World.block_lt_of_cell? w _ hx136_4)).trans hx136_4
                                          replace p136 := eq_true p136
                                          replace q136 := eq_true q136
                                          go_wp2
                                          repeat (go_quiet (fail); try go_wp2)
                                          go_ret
                                          exact ⟨by first | rfl | (simp [errW_none, errW_some] <;> rfl) | (simp only [← hji80]; first | rfl | (simp [errW_none, errW_some] <;> rfl)) | (simp [*, errW_none, errW_some] <;> rfl), by repeat (first | (with_reducible first | exact HB.out | apply below_alloc | apply pw_below_drewN | apply below_drew1 | refine below_set ?_ GE128.out) | exact HB.out)⟩
                                        · rw [if_neg c98] at H
                                          have c98b0 : decide (x25_2 < (wrap64 ((l0.length : Int) - 1))) = false := decide_eq_false c98
                                          clear c98
                                          have H' := Aside0.mk H
                                          clear H
                                          have hcz100_0 : wc.cell? ⟨gb128, 0, none⟩ = some (.int .i64 ((rd_T27 l0 x25_2).f0)) := (blk_cell BK128.out 0).trans rfl
                                          have hcz100_1 : wc.cell? ⟨gb128, 1, none⟩ = some (.string ((rd_T27 l0 x25_2).f1)) := (blk_cell BK128.out 1).trans rfl
                                          have hcz100_2 : wc.cell? ⟨gb128, 2, none⟩ = some (.int .i64 ((rd_T27 l0 x25_2).f2)) := (blk_cell BK128.out 2).trans rfl
                                          have hcz100_3 : wc.cell? ⟨gb128, 3, none⟩ = some (.int .i64 ((rd_T27 l0 x25_2).f3)) := (blk_cell BK128.out 3).trans rfl
                                          have hcz100_4 : wc.cell? ⟨gb128, 4, none⟩ = some (.int .i64 ((rd_T27 l0 x25_2).f4)) := (blk_cell BK128.out 4).trans rfl
                                          have hfz100_0 := blk_frozen BK128.out 0
                                          have hfz100_1 := blk_frozen BK128.out 1
                                          have hfz100_2 := blk_frozen BK128.out 2
                                          have hfz100_3 := blk_frozen BK128.out 3
                                          have hfz100_4 := blk_frozen BK128.out 4
                                          have p135 : 0 ≤ ((ji80) : Int) := of_decide_eq_true (by first | (with_reducible assumption) | assumption)
                                          have q135 : (ji80) < (l0.length : Int) := of_decide_eq_true (by first | (with_reducible assumption) | assumption)
                                          obtain ⟨ad135, e135, hx135_0, hx135_1, hx135_2, hx135_3, hx135_4⟩ := at_T27 HR0.out (ji80) p135 q135
                                          obtain rfl : ad127 = ad135 := (by injection e135)
                                          replace hx135_0 := (HB.out.cell (World.block_lt_of_cell? w _ hx135_0)).trans hx135_0
                                          replace hx135_1 := (HB.out.cell (World.block_lt_of_cell? w _ hx135_1)).trans hx135_1
                                          replace hx135_2 := (HB.out.cell (World.block_lt_of_cell? w _ hx135_2)).trans hx135_2
                                          replace hx135_3 := (HB.out.cell (World.block_lt_of_cell? w _ hx135_3)).trans hx135_3
                                          replace hx135_4 := (HB.out.cell (World.block_lt_of_cell? w _ hx135_4)).trans hx135_4
                                          replace p135 := eq_true p135
                                          replace q135 := eq_true q135
                                          have p136 : 0 ≤ ((ji80) : Int) := of_decide_eq_true (by first | (with_reducible assumption) | assumption)
                                          have q136 : (ji80) < (l0.length : Int) := of_decide_eq_true (by first | (with_reducible assumption) | assumption)
                                          obtain ⟨ad136, e136, hx136_0, hx136_1, hx136_2, hx136_3, hx136_4⟩ := at_T27 HR0.out (ji80) p136 q136
                                          obtain rfl : ad127 = ad136 := (by injection e136)
                                          replace hx136_0 := (HB.out.cell (World.block_lt_of_cell? w _ hx136_0)).trans hx136_0
                                          replace hx136_1 := (HB.out.cell (World.block_lt_of_cell? w _ hx136_1)).trans hx136_1
                                          replace hx136_2 := (HB.out.cell (World.block_lt_of_cell? w _ hx136_2)).trans hx136_2
                                          replace hx136_3 := (HB.out.cell (World.block_lt_of_cell? w _ hx136_3)).trans hx136_3
                                          replace hx136_4 := (HB.out.cell (World.block_lt_of_cell? w _ hx136_4)).trans hx136_4
                                          replace p136 := eq_true p136
                                          replace q136 := eq_true q136
                                          go_wp2
                                          repeat (go_quiet (fail); try go_wp2)
                                          go_roundg kj11
                                          case measure => have := HJ2.out; have := HK2.out; have := HJ11.out; omega
                                          case rel => exact ⟨(wrap64 (x25_2 + 1)), (by first | rfl | (simp; done) | (simp [*]; done)), H', ⟨by have := HJ2.out; have := HK2.out; have := HJ11.out; omega⟩, ⟨by repeat (first | (with_reducible first | exact HB.out | apply below_alloc | apply pw_below_drewN | apply below_drew1 | refine below_set ?_ GE128.out) | exact HB.out)⟩⟩
                                      · rw [if_neg c97] at H
                                        have c97b0 : (((rd_T27 l0 x25_2).f0) == 9) = false := beq_eq_false_iff_ne.mpr c97
                                        have c97b1 : (((rd_T27 l0 x25_2).f0) != 9) = true := bne_iff_ne.mpr c97
                                        obtain rfl := Option.some.inj H
                                        have hcz101_0 : wc.cell? ⟨gb128, 0, none⟩ = some (.int .i64 ((rd_T27 l0 x25_2).f0)) := (blk_cell BK128.out 0).trans rfl
                                        have hcz101_1 : wc.cell? ⟨gb128, 1, none⟩ = some (.string ((rd_T27 l0 x25_2).f1)) := (blk_cell BK128.out 1).trans rfl
                                        have hcz101_2 : wc.cell? ⟨gb128, 2, none⟩ = some (.int .i64 ((rd_T27 l0 x25_2).f2)) := (blk_cell BK128.out 2).trans rfl
                                        have hcz101_3 : wc.cell? ⟨gb128, 3, none⟩ = some (.int .i64 ((rd_T27 l0 x25_2).f3)) := (blk_cell BK128.out 3).trans rfl
                                        have hcz101_4 : wc.cell? ⟨gb128, 4, none⟩ = some (.int .i64 ((rd_T27 l0 x25_2).f4)) := (blk_cell BK128.out 4).trans rfl
                                        have hfz101_0 := blk_frozen BK128.out 0
                                        have hfz101_1 := blk_frozen BK128.out 1
                                        have hfz101_2 := blk_frozen BK128.out 2
                                        have hfz101_3 := blk_frozen BK128.out 3
                                        have hfz101_4 := blk_frozen BK128.out 4
                                        have p135 : 0 ≤ ((ji80) : Int) := of_decide_eq_true (by first | (with_reducible assumption) | assumption)
                                        have q135 : (ji80) < (l0.length : Int) := of_decide_eq_true (by first | (with_reducible assumption) | assumption)
                                        obtain ⟨ad135, e135, hx135_0, hx135_1, hx135_2, hx135_3, hx135_4⟩ := at_T27 HR0.out (ji80) p135 q135
                                        obtain rfl : ad127 = ad135 := (by injection e135)
                                        replace hx135_0 := (HB.out.cell (World.block_lt_of_cell? w _ hx135_0)).trans hx135_0
                                        replace hx135_1 := (HB.out.cell (World.block_lt_of_cell? w _ hx135_1)).trans hx135_1
                                        replace hx135_2 := (HB.out.cell (World.block_lt_of_cell? w _ hx135_2)).trans hx135_2
                                        replace hx135_3 := (HB.out.cell (World.block_lt_of_cell? w _ hx135_3)).trans hx135_3
                                        replace hx135_4 := (HB.out.cell (World.block_lt_of_cell? w _ hx135_4)).trans hx135_4
                                        replace p135 := eq_true p135
                                        replace q135 := eq_true q135
                                        have p136 : 0 ≤ ((ji80) : Int) := of_decide_eq_true (by first | (with_reducible assumption) | assumption)
                                        have q136 : (ji80) < (l0.length : Int) := of_decide_eq_true (by first | (with_reducible assumption) | assumption)
                                        obtain ⟨ad136, e136, hx136_0, hx136_1, hx136_2, hx136_3, hx136_4⟩ := at_T27 HR0.out (ji80) p136 q136
                                        obtain rfl : ad127 = ad136 := (by injection e136)
                                        replace hx136_0 := (HB.out.cell (World.block_lt_of_cell? w _ hx136_0)).trans hx136_0
                                        replace hx136_1 := (HB.out.cell (World.block_lt_of_cell? w _ hx136_1)).trans hx136_1
                                        replace hx136_2 := (HB.out.cell (World.block_lt_of_cell? w _ hx136_2)).trans hx136_2
                                        replace hx136_3 := (HB.out.cell (World.block_lt_of_cell? w _ hx136_3)).trans hx136_3
                                        replace hx136_4 := (HB.out.cell (World.block_lt_of_cell? w _ hx136_4)).trans hx136_4
                                        replace p136 := eq_true p136
                                        replace q136 := eq_true q136
                                        go_wp2
                                        repeat (go_quiet (fail); try go_wp2)
                                        go_ret
                                        exact ⟨by first | rfl | (simp [errW_none, errW_some] <;> rfl) | (simp only [← hji80]; first | rfl | (simp [errW_none, errW_some] <;> rfl)) | (simp [*, errW_none, errW_some] <;> rfl), by repeat (first | (with_reducible first | exact HB.out | apply below_alloc | apply pw_below_drewN | apply below_drew1 | refine below_set ?_ GE128.out) | exact HB.out)⟩
                                · rw [if_neg c82] at H
                                  exact absurd H (by simp)
                              · rw [if_neg c81] at H
                                exact absurd H (by simp)
                            · rw [if_neg c79] at H
                              have c79b0 : decide (0 < x25_2) = false := decide_eq_false c79
                              clear c79
                              by_cases c102 : ((rd_T27 l0 x25_2).f0) = 9
                              · rw [if_pos c102] at H
                                have c102b0 : (((rd_T27 l0 x25_2).f0) == 9) = true := beq_iff_eq.mpr c102
                                have c102b1 : (((rd_T27 l0 x25_2).f0) != 9) = false := bne_eq_false_iff_eq.mpr c102
                                clear c102
                                by_cases c103 : x25_2 < (wrap64 ((l0.length : Int) - 1))
                                · rw [if_pos c103] at H
                                  have c103b0 : decide (x25_2 < (wrap64 ((l0.length : Int) - 1))) = true := decide_eq_true c103
                                  clear c103
                                  obtain rfl := Option.some.inj H
                                  have hcz104_0 : wc.cell? ⟨gb128, 0, none⟩ = some (.int .i64 ((rd_T27 l0 x25_2).f0)) := (blk_cell BK128.out 0).trans rfl
                                  have hcz104_1 : wc.cell? ⟨gb128, 1, none⟩ = some (.string ((rd_T27 l0 x25_2).f1)) := (blk_cell BK128.out 1).trans rfl
                                  have hcz104_2 : wc.cell? ⟨gb128, 2, none⟩ = some (.int .i64 ((rd_T27 l0 x25_2).f2)) := (blk_cell BK128.out 2).trans rfl
                                  have hcz104_3 : wc.cell? ⟨gb128, 3, none⟩ = some (.int .i64 ((rd_T27 l0 x25_2).f3)) := (blk_cell BK128.out 3).trans rfl
                                  have hcz104_4 : wc.cell? ⟨gb128, 4, none⟩ = some (.int .i64 ((rd_T27 l0 x25_2).f4)) := (blk_cell BK128.out 4).trans rfl
                                  have hfz104_0 := blk_frozen BK128.out 0
                                  have hfz104_1 := blk_frozen BK128.out 1
                                  have hfz104_2 := blk_frozen BK128.out 2
                                  have hfz104_3 := blk_frozen BK128.out 3
                                  have hfz104_4 := blk_frozen BK128.out 4
                                  go_wp2
                                  repeat (go_quiet (fail); try go_wp2)
                                  go_ret
                                  exact ⟨by first | rfl | (simp [errW_none, errW_some] <;> rfl) | (simp [*, errW_none, errW_some] <;> rfl), by repeat (first | (with_reducible first | exact HB.out | apply below_alloc | apply pw_below_drewN | apply below_drew1 | refine below_set ?_ GE128.out) | exact HB.out)⟩
                                · rw [if_neg c103] at H
                                  have c103b0 : decide (x25_2 < (wrap64 ((l0.length : Int) - 1))) = false := decide_eq_false c103
                                  clear c103
                                  have H' := Aside0.mk H
                                  clear H
                                  have hcz105_0 : wc.cell? ⟨gb128, 0, none⟩ = some (.int .i64 ((rd_T27 l0 x25_2).f0)) := (blk_cell BK128.out 0).trans rfl
                                  have hcz105_1 : wc.cell? ⟨gb128, 1, none⟩ = some (.string ((rd_T27 l0 x25_2).f1)) := (blk_cell BK128.out 1).trans rfl
                                  have hcz105_2 : wc.cell? ⟨gb128, 2, none⟩ = some (.int .i64 ((rd_T27 l0 x25_2).f2)) := (blk_cell BK128.out 2).trans rfl
                                  have hcz105_3 : wc.cell? ⟨gb128, 3, none⟩ = some (.int .i64 ((rd_T27 l0 x25_2).f3)) := (blk_cell BK128.out 3).trans rfl
                                  have hcz105_4 : wc.cell? ⟨gb128, 4, none⟩ = some (.int .i64 ((rd_T27 l0 x25_2).f4)) := (blk_cell BK128.out 4).trans rfl
                                  have hfz105_0 := blk_frozen BK128.out 0
                                  have hfz105_1 := blk_frozen BK128.out 1
                                  have hfz105_2 := blk_frozen BK128.out 2
                                  have hfz105_3 := blk_frozen BK128.out 3
                                  have hfz105_4 := blk_frozen BK128.out 4
                                  go_wp2
                                  repeat (go_quiet (fail); try go_wp2)
                                  go_roundg kj11
                                  case measure => have := HJ2.out; have := HK2.out; have := HJ11.out; omega
                                  case rel => exact ⟨(wrap64 (x25_2 + 1)), (by first | rfl | (simp; done) | (simp [*]; done)), H', ⟨by have := HJ2.out; have := HK2.out; have := HJ11.out; omega⟩, ⟨by repeat (first | (with_reducible first | exact HB.out | apply below_alloc | apply pw_below_drewN | apply below_drew1 | refine below_set ?_ GE128.out) | exact HB.out)⟩⟩
                              · rw [if_neg c102] at H
                                have c102b0 : (((rd_T27 l0 x25_2).f0) == 9) = false := beq_eq_false_iff_ne.mpr c102
                                have c102b1 : (((rd_T27 l0 x25_2).f0) != 9) = true := bne_iff_ne.mpr c102
                                obtain rfl := Option.some.inj H
                                have hcz106_0 : wc.cell? ⟨gb128, 0, none⟩ = some (.int .i64 ((rd_T27 l0 x25_2).f0)) := (blk_cell BK128.out 0).trans rfl
                                have hcz106_1 : wc.cell? ⟨gb128, 1, none⟩ = some (.string ((rd_T27 l0 x25_2).f1)) := (blk_cell BK128.out 1).trans rfl
                                have hcz106_2 : wc.cell? ⟨gb128, 2, none⟩ = some (.int .i64 ((rd_T27 l0 x25_2).f2)) := (blk_cell BK128.out 2).trans rfl
                                have hcz106_3 : wc.cell? ⟨gb128, 3, none⟩ = some (.int .i64 ((rd_T27 l0 x25_2).f3)) := (blk_cell BK128.out 3).trans rfl
                                have hcz106_4 : wc.cell? ⟨gb128, 4, none⟩ = some (.int .i64 ((rd_T27 l0 x25_2).f4)) := (blk_cell BK128.out 4).trans rfl
                                have hfz106_0 := blk_frozen BK128.out 0
                                have hfz106_1 := blk_frozen BK128.out 1
                                have hfz106_2 := blk_frozen BK128.out 2
                                have hfz106_3 := blk_frozen BK128.out 3
                                have hfz106_4 := blk_frozen BK128.out 4
                                go_wp2
                                repeat (go_quiet (fail); try go_wp2)
                                go_ret
                                exact ⟨by first | rfl | (simp [errW_none, errW_some] <;> rfl) | (simp [*, errW_none, errW_some] <;> rfl), by repeat (first | (with_reducible first | exact HB.out | apply below_alloc | apply pw_below_drewN | apply below_drew1 | refine below_set ?_ GE128.out) | exact HB.out)⟩
                  · rw [if_neg c11] at H
                    exact absurd H (by simp)
                · rw [if_neg c10] at H
                  exact absurd H (by simp)
              · rw [if_neg c9] at H
                have c9b0 : decide (x25_2 < (l0.length : Int)) = false := decide_eq_false c9
                clear c9
                obtain rfl := Option.some.inj H
                go_wp2
                repeat (go_quiet (fail); try go_wp2)
                go_ret
                exact ⟨by first | rfl | (simp [errW_none, errW_some] <;> rfl) | (simp [*, errW_none, errW_some] <;> rfl), by repeat (first | (with_reducible first | exact HB.out | apply below_alloc | apply pw_below_drewN | apply below_drew1) | exact HB.out)⟩

end Go.Proofs.Ytchbjjefjmcakaa.PLayoutBlocks
