-- PRINTED BY print.sh 35421559b90ae4d0a3588c463048766b98c2df88dd9212a6774a882060cdf62d: not written by this session
import Derived.Test.YtjhinklijopobaaDoorPCoreChecksx0
namespace Go.Proofs.YtjhinklijopobaaDoor.PCoreChecks
open Go.RowKit Go.Proofs.YtjhinklijopobaaDoorW.PrintWords Go.Proofs.YtjhinklijopobaaDoorW.PrintLast Go.Proofs.YtjhinklijopobaaDoorW.PrintMore
attribute [local go_sem] max2_int min2_int max_two min_two max_three min_three max_four min_four   -- for this text's walks alone
set_option linter.unusedVariables false
set_option linter.unusedSimpArgs false

/-! ### provenanceref2_goodAlts: function 105 -/
mutual
def provenanceref2_goodAlts.j0 : Nat → Bool → Int → Int → List Int → List Int → List (S86) → Option (Bool)
  | 0, _, _, _, _, _, _ => none
  | k + 1, x13, x289000, x289001, x289002, x289003, x289004 => if x13 = true then (some ((x289004.length : Int) == 0)) else (provenanceref2_goodAlts.l0 k x289004 (x289004.length : Int) 0 x289000 x289001 x289002 x289003 x289004)
def provenanceref2_goodAlts.l0 : Nat → List (S86) → Int → Int → Int → Int → List Int → List Int → List (S86) → Option (Bool)
  | 0, _, _, _, _, _, _, _, _ => none
  | k + 1, x19, x20, x21, x289000, x289001, x289002, x289003, x289004 => if x21 < x20 then (if 0 ≤ x21 then (if x21 < (x19.length : Int) then (provenanceref2_goodAlts.l1 k x21 x19 x20 x21 x21 0 x289000 x289001 x289002 x289003 x289004 ((rd_T86 x19 x21).f0) ((rd_T86 x19 x21).f1)) else (none)) else (none)) else (if x289000 = 7 then (some true) else (some (decide ((x289004.length : Int) > 0))))
def provenanceref2_goodAlts.l1 : Nat → Int → List (S86) → Int → Int → Int → Int → Int → Int → List Int → List Int → List (S86) → Int → List Int → Option (Bool)
  | 0, _, _, _, _, _, _, _, _, _, _, _, _, _ => none
  | k + 1, x3, x19, x20, x21, x26, x27, x289000, x289001, x289002, x289003, x289004, x291000, x291001 => if x27 < x26 then (if 0 ≤ x27 then (if x27 < (x289004.length : Int) then (if ((rd_T86 x289004 x27).f0) = x291000 then (some false) else (provenanceref2_goodAlts.l1 k x3 x19 x20 x21 x26 (wrap64 (x27 + 1)) x289000 x289001 x289002 x289003 x289004 x291000 x291001)) else (none)) else (none)) else (if x291000 < (-1) then (some false) else (if x289000 = 7 then (if x291000 = (-1) then (if (wrap64 (x3 + 1)) < (x289004.length : Int) then (provenanceref2_goodAlts.j3 k x3 x19 x20 x21 true x289000 x289001 x289002 x289003 x289004 x291000 x291001) else (provenanceref2_goodAlts.j3 k x3 x19 x20 x21 ((x291001.length : Int) != 0) x289000 x289001 x289002 x289003 x289004 x291000 x291001)) else (provenanceref2_goodAlts.j3 k x3 x19 x20 x21 false x289000 x289001 x289002 x289003 x289004 x291000 x291001)) else (provenanceref2_goodAlts.j3 k x3 x19 x20 x21 false x289000 x289001 x289002 x289003 x289004 x291000 x291001)))
def provenanceref2_goodAlts.j3 : Nat → Int → List (S86) → Int → Int → Bool → Int → Int → List Int → List Int → List (S86) → Int → List Int → Option (Bool)
  | 0, _, _, _, _, _, _, _, _, _, _, _, _ => none
  | k + 1, x3, x19, x20, x21, x64, x289000, x289001, x289002, x289003, x289004, x291000, x291001 => if x64 = true then (some false) else (if x289000 = 13 then (if x3 = 0 then (if x291000 = (-1) then (if (x291001.length : Int) = 1 then (if x3 > 0 then (if x291000 < 0 then (some false) else (if (x291001.length : Int) = 2 then (provenanceref2_goodAlts.l0 k x19 x20 (wrap64 (x21 + 1)) x289000 x289001 x289002 x289003 x289004) else (some false))) else (provenanceref2_goodAlts.l0 k x19 x20 (wrap64 (x21 + 1)) x289000 x289001 x289002 x289003 x289004)) else (some false)) else (some false)) else (if x3 > 0 then (if x291000 < 0 then (some false) else (if (x291001.length : Int) = 2 then (provenanceref2_goodAlts.l0 k x19 x20 (wrap64 (x21 + 1)) x289000 x289001 x289002 x289003 x289004) else (some false))) else (provenanceref2_goodAlts.l0 k x19 x20 (wrap64 (x21 + 1)) x289000 x289001 x289002 x289003 x289004))) else (provenanceref2_goodAlts.l0 k x19 x20 (wrap64 (x21 + 1)) x289000 x289001 x289002 x289003 x289004))
end
def provenanceref2_goodAlts.f (k : Nat) (a0_0 : Int) (a0_1 : Int) (l0_2 : List Int) (l0_3 : List Int) (l0_4 : List (S86)) : Option (Bool) := if a0_0 = 7 then (provenanceref2_goodAlts.j0 k false a0_0 a0_1 l0_2 l0_3 l0_4) else (provenanceref2_goodAlts.j0 k (a0_0 != 13) a0_0 a0_1 l0_2 l0_3 l0_4)
theorem provenanceref2_goodAlts.mono_l : ∀ k, (∀ y0 y1 y2 y3 y4 y5, LeO (provenanceref2_goodAlts.j0 k y0 y1 y2 y3 y4 y5) (provenanceref2_goodAlts.j0 (k + 1) y0 y1 y2 y3 y4 y5)) ∧ (∀ y0 y1 y2 y3 y4 y5 y6 y7, LeO (provenanceref2_goodAlts.l0 k y0 y1 y2 y3 y4 y5 y6 y7) (provenanceref2_goodAlts.l0 (k + 1) y0 y1 y2 y3 y4 y5 y6 y7)) ∧ (∀ y0 y1 y2 y3 y4 y5 y6 y7 y8 y9 y10 y11 y12, LeO (provenanceref2_goodAlts.l1 k y0 y1 y2 y3 y4 y5 y6 y7 y8 y9 y10 y11 y12) (provenanceref2_goodAlts.l1 (k + 1) y0 y1 y2 y3 y4 y5 y6 y7 y8 y9 y10 y11 y12)) ∧ (∀ y0 y1 y2 y3 y4 y5 y6 y7 y8 y9 y10 y11, LeO (provenanceref2_goodAlts.j3 k y0 y1 y2 y3 y4 y5 y6 y7 y8 y9 y10 y11) (provenanceref2_goodAlts.j3 (k + 1) y0 y1 y2 y3 y4 y5 y6 y7 y8 y9 y10 y11))
  | 0 => ⟨fun _ _ _ _ _ _ r h => by simp [provenanceref2_goodAlts.j0] at h, fun _ _ _ _ _ _ _ _ r h => by simp [provenanceref2_goodAlts.l0] at h, fun _ _ _ _ _ _ _ _ _ _ _ _ _ r h => by simp [provenanceref2_goodAlts.l1] at h, fun _ _ _ _ _ _ _ _ _ _ _ _ r h => by simp [provenanceref2_goodAlts.j3] at h⟩
  | k + 1 => by
    obtain ⟨ih0, ih1, ih2, ih3⟩ := provenanceref2_goodAlts.mono_l k
    refine ⟨?_, ?_, ?_, ?_⟩
    · intro y0 y1 y2 y3 y4 y5
      unfold provenanceref2_goodAlts.j0
      repeat' first
      | (with_reducible exact ih0 _ _ _ _ _ _)
      | (with_reducible exact ih1 _ _ _ _ _ _ _ _)
      | (with_reducible exact ih2 _ _ _ _ _ _ _ _ _ _ _ _ _)
      | (with_reducible exact ih3 _ _ _ _ _ _ _ _ _ _ _ _)
      | (with_reducible exact LeO.refl _)
      | (with_reducible exact LeO.none _)
      | (with_reducible refine LeO.ite ?_ ?_)
      | (with_reducible refine LeO.bind ?_ (fun _ => ?_))
      | exact ih0 _ _ _ _ _ _
      | exact ih1 _ _ _ _ _ _ _ _
      | exact ih2 _ _ _ _ _ _ _ _ _ _ _ _ _
      | exact ih3 _ _ _ _ _ _ _ _ _ _ _ _
      | exact LeO.none _
      | refine LeO.ite ?_ ?_
      | refine LeO.bind ?_ (fun _ => ?_)
    · intro y0 y1 y2 y3 y4 y5 y6 y7
      unfold provenanceref2_goodAlts.l0
      repeat' first
      | (with_reducible exact ih0 _ _ _ _ _ _)
      | (with_reducible exact ih1 _ _ _ _ _ _ _ _)
      | (with_reducible exact ih2 _ _ _ _ _ _ _ _ _ _ _ _ _)
      | (with_reducible exact ih3 _ _ _ _ _ _ _ _ _ _ _ _)
      | (with_reducible exact LeO.refl _)
      | (with_reducible exact LeO.none _)
      | (with_reducible refine LeO.ite ?_ ?_)
      | (with_reducible refine LeO.bind ?_ (fun _ => ?_))
      | exact ih0 _ _ _ _ _ _
      | exact ih1 _ _ _ _ _ _ _ _
      | exact ih2 _ _ _ _ _ _ _ _ _ _ _ _ _
      | exact ih3 _ _ _ _ _ _ _ _ _ _ _ _
      | exact LeO.none _
      | refine LeO.ite ?_ ?_
      | refine LeO.bind ?_ (fun _ => ?_)
    · intro y0 y1 y2 y3 y4 y5 y6 y7 y8 y9 y10 y11 y12
      unfold provenanceref2_goodAlts.l1
      repeat' first
      | (with_reducible exact ih0 _ _ _ _ _ _)
      | (with_reducible exact ih1 _ _ _ _ _ _ _ _)
      | (with_reducible exact ih2 _ _ _ _ _ _ _ _ _ _ _ _ _)
      | (with_reducible exact ih3 _ _ _ _ _ _ _ _ _ _ _ _)
      | (with_reducible exact LeO.refl _)
      | (with_reducible exact LeO.none _)
      | (with_reducible refine LeO.ite ?_ ?_)
      | (with_reducible refine LeO.bind ?_ (fun _ => ?_))
      | exact ih0 _ _ _ _ _ _
      | exact ih1 _ _ _ _ _ _ _ _
      | exact ih2 _ _ _ _ _ _ _ _ _ _ _ _ _
      | exact ih3 _ _ _ _ _ _ _ _ _ _ _ _
      | exact LeO.none _
      | refine LeO.ite ?_ ?_
      | refine LeO.bind ?_ (fun _ => ?_)
    · intro y0 y1 y2 y3 y4 y5 y6 y7 y8 y9 y10 y11
      unfold provenanceref2_goodAlts.j3
      repeat' first
      | (with_reducible exact ih0 _ _ _ _ _ _)
      | (with_reducible exact ih1 _ _ _ _ _ _ _ _)
      | (with_reducible exact ih2 _ _ _ _ _ _ _ _ _ _ _ _ _)
      | (with_reducible exact ih3 _ _ _ _ _ _ _ _ _ _ _ _)
      | (with_reducible exact LeO.refl _)
      | (with_reducible exact LeO.none _)
      | (with_reducible refine LeO.ite ?_ ?_)
      | (with_reducible refine LeO.bind ?_ (fun _ => ?_))
      | exact ih0 _ _ _ _ _ _
      | exact ih1 _ _ _ _ _ _ _ _
      | exact ih2 _ _ _ _ _ _ _ _ _ _ _ _ _
      | exact ih3 _ _ _ _ _ _ _ _ _ _ _ _
      | exact LeO.none _
      | refine LeO.ite ?_ ?_
      | refine LeO.bind ?_ (fun _ => ?_)
theorem provenanceref2_goodAlts.mono : ∀ a0 a1 a2 a3 a4 k, LeO (provenanceref2_goodAlts.f k a0 a1 a2 a3 a4) (provenanceref2_goodAlts.f (k + 1) a0 a1 a2 a3 a4) := by
  intro a0 a1 a2 a3 a4 k
  obtain ⟨ih0, ih1, ih2, ih3⟩ := provenanceref2_goodAlts.mono_l k
  unfold provenanceref2_goodAlts.f
  repeat' first
      | (with_reducible exact ih0 _ _ _ _ _ _)
      | (with_reducible exact ih1 _ _ _ _ _ _ _ _)
      | (with_reducible exact ih2 _ _ _ _ _ _ _ _ _ _ _ _ _)
      | (with_reducible exact ih3 _ _ _ _ _ _ _ _ _ _ _ _)
      | (with_reducible exact LeO.refl _)
      | (with_reducible exact LeO.none _)
      | (with_reducible refine LeO.ite ?_ ?_)
      | (with_reducible refine LeO.bind ?_ (fun _ => ?_))
      | exact ih0 _ _ _ _ _ _
      | exact ih1 _ _ _ _ _ _ _ _
      | exact ih2 _ _ _ _ _ _ _ _ _ _ _ _ _
      | exact ih3 _ _ _ _ _ _ _ _ _ _ _ _
      | exact LeO.none _
      | refine LeO.ite ?_ ?_
      | refine LeO.bind ?_ (fun _ => ?_)
set_option maxHeartbeats 8000000 in
set_option maxRecDepth 100000 in
theorem provenanceref2_goodAlts.calls (k : Nat) (a0_0 : Int) (a0_1 : Int) (A0_2 : Option Addr) (c0_2 : Nat) (l0_2 : List Int) (A0_3 : Option Addr) (c0_3 : Nat) (l0_3 : List Int) (A0_4 : Option Addr) (c0_4 : Nat) (l0_4 : List (S86)) (r : Bool) (w : World) (hr0_2 : Kd.C (Kd.int .i64) w A0_2 l0_2.length l0_2) (hc0_2 : l0_2.length ≤ c0_2) (hr0_3 : Kd.C (Kd.int .i64) w A0_3 l0_3.length l0_3) (hc0_3 : l0_3.length ≤ c0_3) (hr0_4 : Kd.C k86 w A0_4 l0_4.length l0_4) (hc0_4 : l0_4.length ≤ c0_4) (h : provenanceref2_goodAlts.f k a0_0 a0_1 l0_2 l0_3 l0_4 = some r) :
    Calls Tryd.prog 105 #[.agg #[.int .i64 a0_0, .int .i64 a0_1, .slice A0_2 l0_2.length c0_2, .slice A0_3 l0_3.length c0_3, .slice A0_4 l0_4.length c0_4]] w fun e w' => e = .returned (.bool r) ∧ Below w.heap.size w w' := by
  have hu28 := Tryd.underlying28
  have hu86 := Tryd.underlying86
  have HR0_2 := Aside0.mk hr0_2
  have HC0_2 := Aside0.mk hc0_2
  clear hr0_2 hc0_2
  have HR0_3 := Aside0.mk hr0_3
  have HC0_3 := Aside0.mk hc0_3
  clear hr0_3 hc0_3
  have HR0_4 := Aside0.mk hr0_4
  have HC0_4 := Aside0.mk hc0_4
  clear hr0_4 hc0_4
  have HB := Aside0.mk (Below.refl w.heap.size w)
  have H : (if a0_0 = 7 then (provenanceref2_goodAlts.j0 k false a0_0 a0_1 l0_2 l0_3 l0_4) else (provenanceref2_goodAlts.j0 k (a0_0 != 13) a0_0 a0_1 l0_2 l0_3 l0_4)) = some r := h
  clear h
  have HC2 := Aside0.mk H
  clear H
  go_enter Tryd.func105, Tryd.ntmps105
  go_upto_region 1 with (first | ((with_reducible refine gate_dst (N := 1) rfl ?_); (try (refine gate_guard (by rfl) ?_; dsimp only)); refine box_event ?hg (N := 1) ?hd (cs := #[.int .i64 a0_0, .int .i64 a0_1, .slice A0_2 l0_2.length c0_2, .slice A0_3 l0_3.length c0_3, .slice A0_4 l0_4.length c0_4]) (t := 28) ?hr ?_; (case hd => rfl); (case hg => rfl); (case hr => first | (go_simp; done) | (go_simp; rfl)); intro gb288 hg w3 hbox hb; have n0_ := Aside0.mk (below_step (by repeat (first | (with_reducible first | exact HB.out | apply below_alloc | apply pw_below_drewN | apply below_drew1) | exact HB.out)) hb); have n1_ := Aside0.mk (hbox); have n2_ := Aside0.mk ((by rw [hg]; exact (below_size (by repeat (first | (with_reducible first | exact HB.out | apply below_alloc | apply pw_below_drewN | apply below_drew1) | exact HB.out))) : w.heap.size ≤ gb288)); have n3_ := Aside0.mk ((by rw [hg]; exact (below_size (by repeat (first | (with_reducible first | exact HB.out | apply below_alloc | apply pw_below_drewN | apply below_drew1) | exact HB.out))) : w.heap.size ≤ gb288)); clear HB; have HB := n0_; have BK288 := n1_; have GW288 := n2_; have GE288 := n3_; clear n0_ n1_ n2_ n3_; clear hb hbox hg))
  repeat (go_quiet (first | ((with_reducible refine gate_dst (N := 1) rfl ?_); (try (refine gate_guard (by rfl) ?_; dsimp only)); refine box_event ?hg (N := 1) ?hd (cs := #[.int .i64 a0_0, .int .i64 a0_1, .slice A0_2 l0_2.length c0_2, .slice A0_3 l0_3.length c0_3, .slice A0_4 l0_4.length c0_4]) (t := 28) ?hr ?_; (case hd => rfl); (case hg => rfl); (case hr => first | (go_simp; done) | (go_simp; rfl)); intro gb288 hg w3 hbox hb; have n0_ := Aside0.mk (below_step (by repeat (first | (with_reducible first | exact HB.out | apply below_alloc | apply pw_below_drewN | apply below_drew1) | exact HB.out)) hb); have n1_ := Aside0.mk (hbox); have n2_ := Aside0.mk ((by rw [hg]; exact (below_size (by repeat (first | (with_reducible first | exact HB.out | apply below_alloc | apply pw_below_drewN | apply below_drew1) | exact HB.out))) : w.heap.size ≤ gb288)); have n3_ := Aside0.mk ((by rw [hg]; exact (below_size (by repeat (first | (with_reducible first | exact HB.out | apply below_alloc | apply pw_below_drewN | apply below_drew1) | exact HB.out))) : w.heap.size ≤ gb288)); clear HB; have HB := n0_; have BK288 := n1_; have GW288 := n2_; have GE288 := n3_; clear n0_ n1_ n2_ n3_; clear hb hbox hg)); go_upto_region 1 with (first | ((with_reducible refine gate_dst (N := 1) rfl ?_); (try (refine gate_guard (by rfl) ?_; dsimp only)); refine box_event ?hg (N := 1) ?hd (cs := #[.int .i64 a0_0, .int .i64 a0_1, .slice A0_2 l0_2.length c0_2, .slice A0_3 l0_3.length c0_3, .slice A0_4 l0_4.length c0_4]) (t := 28) ?hr ?_; (case hd => rfl); (case hg => rfl); (case hr => first | (go_simp; done) | (go_simp; rfl)); intro gb288 hg w3 hbox hb; have n0_ := Aside0.mk (below_step (by repeat (first | (with_reducible first | exact HB.out | apply below_alloc | apply pw_below_drewN | apply below_drew1) | exact HB.out)) hb); have n1_ := Aside0.mk (hbox); have n2_ := Aside0.mk ((by rw [hg]; exact (below_size (by repeat (first | (with_reducible first | exact HB.out | apply below_alloc | apply pw_below_drewN | apply below_drew1) | exact HB.out))) : w.heap.size ≤ gb288)); have n3_ := Aside0.mk ((by rw [hg]; exact (below_size (by repeat (first | (with_reducible first | exact HB.out | apply below_alloc | apply pw_below_drewN | apply below_drew1) | exact HB.out))) : w.heap.size ≤ gb288)); clear HB; have HB := n0_; have BK288 := n1_; have GW288 := n2_; have GE288 := n3_; clear n0_ n1_ n2_ n3_; clear hb hbox hg)))
  (try simp only [Act.put, List.setIfInBounds_toArray, List.set_cons_zero, List.set_cons_succ])
  go_cut [13] (fun v13 wc => ∃ (kq : Nat) (x13_1 : Bool), v13 = .bool x13_1 ∧ Aside0 (provenanceref2_goodAlts.j0 kq x13_1 a0_0 a0_1 l0_2 l0_3 l0_4 = some r) ∧ Aside0 (kq ≤ k) ∧ Aside0 (wc.heap[gb288]? = some (.cells #[.int .i64 a0_0, .int .i64 a0_1, (.slice A0_2 l0_2.length c0_2), (.slice A0_3 l0_3.length c0_3), (.slice A0_4 l0_4.length c0_4)] 28 (0, 0))) ∧ Aside0 (Below w.heap.size w wc))
  case first =>
    have H := HC2.out
    clear HC2
    by_cases c4 : a0_0 = 7
    · rw [if_pos c4] at H
      have c4b0 : (a0_0 == 7) = true := beq_iff_eq.mpr c4
      have c4b1 : (a0_0 != 7) = false := bne_eq_false_iff_eq.mpr c4
      clear c4
      (first | rw [c4b0] | (simp only [i64_w, i32_w]; rw [c4b0]) | skip)
      have H' := Aside0.mk H
      clear H
      have hcz5_0 : w3.cell? ⟨gb288, 0, none⟩ = some (.int .i64 a0_0) := (blk_cell BK288.out 0).trans rfl
      have hcz5_1 : w3.cell? ⟨gb288, 1, none⟩ = some (.int .i64 a0_1) := (blk_cell BK288.out 1).trans rfl
      have hcz5_2 : w3.cell? ⟨gb288, 2, none⟩ = some (.slice A0_2 l0_2.length c0_2) := (blk_cell BK288.out 2).trans rfl
      have hcz5_3 : w3.cell? ⟨gb288, 3, none⟩ = some (.slice A0_3 l0_3.length c0_3) := (blk_cell BK288.out 3).trans rfl
      have hcz5_4 : w3.cell? ⟨gb288, 4, none⟩ = some (.slice A0_4 l0_4.length c0_4) := (blk_cell BK288.out 4).trans rfl
      have hfz5_0 := blk_frozen BK288.out 0
      have hfz5_1 := blk_frozen BK288.out 1
      have hfz5_2 := blk_frozen BK288.out 2
      have hfz5_3 := blk_frozen BK288.out 3
      have hfz5_4 := blk_frozen BK288.out 4
      go_wp2
      repeat (go_quiet (fail); try go_wp2)
      go_meet
      case rel => exact ⟨_, (false), (by first | rfl | (simp; done) | (simp [*]; done)), H', ⟨by first | omega | exact Nat.le_refl _⟩, ⟨by (with_reducible repeat (first | refine blk_drewN ?_ _ | refine blk_drew ?_ | refine blk_alloc ?_ _)); exact BK288.out⟩, ⟨by repeat (first | (with_reducible first | exact HB.out | apply below_alloc | apply pw_below_drewN | apply below_drew1 | refine below_set ?_ GE288.out) | exact HB.out)⟩⟩
    · rw [if_neg c4] at H
      have c4b0 : (a0_0 == 7) = false := beq_eq_false_iff_ne.mpr c4
      have c4b1 : (a0_0 != 7) = true := bne_iff_ne.mpr c4
      (first | rw [c4b0] | (simp only [i64_w, i32_w]; rw [c4b0]) | skip)
      have H' := Aside0.mk H
      clear H
      have hcz6_0 : w3.cell? ⟨gb288, 0, none⟩ = some (.int .i64 a0_0) := (blk_cell BK288.out 0).trans rfl
      have hcz6_1 : w3.cell? ⟨gb288, 1, none⟩ = some (.int .i64 a0_1) := (blk_cell BK288.out 1).trans rfl
      have hcz6_2 : w3.cell? ⟨gb288, 2, none⟩ = some (.slice A0_2 l0_2.length c0_2) := (blk_cell BK288.out 2).trans rfl
      have hcz6_3 : w3.cell? ⟨gb288, 3, none⟩ = some (.slice A0_3 l0_3.length c0_3) := (blk_cell BK288.out 3).trans rfl
      have hcz6_4 : w3.cell? ⟨gb288, 4, none⟩ = some (.slice A0_4 l0_4.length c0_4) := (blk_cell BK288.out 4).trans rfl
      have hfz6_0 := blk_frozen BK288.out 0
      have hfz6_1 := blk_frozen BK288.out 1
      have hfz6_2 := blk_frozen BK288.out 2
      have hfz6_3 := blk_frozen BK288.out 3
      have hfz6_4 := blk_frozen BK288.out 4
      go_wp2
      repeat (go_quiet (fail); try go_wp2)
      go_meet
      case rel => exact ⟨_, ((a0_0 != 13)), (by first | rfl | (simp; done) | (simp [*]; done)), H', ⟨by first | omega | exact Nat.le_refl _⟩, ⟨by (with_reducible repeat (first | refine blk_drewN ?_ _ | refine blk_drew ?_ | refine blk_alloc ?_ _)); exact BK288.out⟩, ⟨by repeat (first | (with_reducible first | exact HB.out | apply below_alloc | apply pw_below_drewN | apply below_drew1 | refine below_set ?_ GE288.out) | exact HB.out)⟩⟩
  case rest =>
    clear HC2
    try clear c1
    try clear p2
    try clear c4
    try clear c4b0
    try clear c4b1
    try clear hcz5_0
    try clear hcz5_1
    try clear hcz5_2
    try clear hcz5_3
    try clear hcz5_4
    try clear hcz6_0
    try clear hcz6_1
    try clear hcz6_2
    try clear hcz6_3
    try clear hcz6_4
    try clear hfz5_0
    try clear hfz5_1
    try clear hfz5_2
    try clear hfz5_3
    try clear hfz5_4
    try clear hfz6_0
    try clear hfz6_1
    try clear hfz6_2
    try clear hfz6_3
    try clear hfz6_4
    obtain ⟨kq, x13_1, rfl, HA, HJ1, BK288, HB⟩ := hcut
    cases kq with
    | zero => exact absurd HA.out (by simp [provenanceref2_goodAlts.j0])
    | succ kj1 =>
      have H := HA.out
      clear HA
      simp only [provenanceref2_goodAlts.j0] at H
      by_cases c7 : x13_1 = true
      · subst c7
        have H1 : (some ((l0_4.length : Int) == 0)) = some r := by rw [if_pos rfl] at H; exact H
        clear H
        have H := H1
        clear H1
        obtain rfl := Option.some.inj H
        have hcz8_0 : wc.cell? ⟨gb288, 0, none⟩ = some (.int .i64 a0_0) := (blk_cell BK288.out 0).trans rfl
        have hcz8_1 : wc.cell? ⟨gb288, 1, none⟩ = some (.int .i64 a0_1) := (blk_cell BK288.out 1).trans rfl
        have hcz8_2 : wc.cell? ⟨gb288, 2, none⟩ = some (.slice A0_2 l0_2.length c0_2) := (blk_cell BK288.out 2).trans rfl
        have hcz8_3 : wc.cell? ⟨gb288, 3, none⟩ = some (.slice A0_3 l0_3.length c0_3) := (blk_cell BK288.out 3).trans rfl
        have hcz8_4 : wc.cell? ⟨gb288, 4, none⟩ = some (.slice A0_4 l0_4.length c0_4) := (blk_cell BK288.out 4).trans rfl
        have hfz8_0 := blk_frozen BK288.out 0
        have hfz8_1 := blk_frozen BK288.out 1
        have hfz8_2 := blk_frozen BK288.out 2
        have hfz8_3 := blk_frozen BK288.out 3
        have hfz8_4 := blk_frozen BK288.out 4
        go_wp2
        repeat (go_quiet (fail); try go_wp2)
        go_ret
        exact ⟨by first | rfl | (simp [errW_none, errW_some] <;> rfl) | (simp [*, errW_none, errW_some] <;> rfl), by repeat (first | (with_reducible first | exact HB.out | apply below_alloc | apply pw_below_drewN | apply below_drew1 | refine below_set ?_ GE288.out) | exact HB.out)⟩
      · replace c7 := Bool.eq_false_iff.mpr c7
        subst c7
        have H1 : (provenanceref2_goodAlts.l0 kj1 l0_4 (l0_4.length : Int) 0 a0_0 a0_1 l0_2 l0_3 l0_4) = some r := by rw [if_neg (show ¬ (false = true) by decide)] at H; exact H
        clear H
        have H := H1
        clear H1
        have H' := Aside0.mk H
        clear H
        have hcz9_0 : wc.cell? ⟨gb288, 0, none⟩ = some (.int .i64 a0_0) := (blk_cell BK288.out 0).trans rfl
        have hcz9_1 : wc.cell? ⟨gb288, 1, none⟩ = some (.int .i64 a0_1) := (blk_cell BK288.out 1).trans rfl
        have hcz9_2 : wc.cell? ⟨gb288, 2, none⟩ = some (.slice A0_2 l0_2.length c0_2) := (blk_cell BK288.out 2).trans rfl
        have hcz9_3 : wc.cell? ⟨gb288, 3, none⟩ = some (.slice A0_3 l0_3.length c0_3) := (blk_cell BK288.out 3).trans rfl
        have hcz9_4 : wc.cell? ⟨gb288, 4, none⟩ = some (.slice A0_4 l0_4.length c0_4) := (blk_cell BK288.out 4).trans rfl
        have hfz9_0 := blk_frozen BK288.out 0
        have hfz9_1 := blk_frozen BK288.out 1
        have hfz9_2 := blk_frozen BK288.out 2
        have hfz9_3 := blk_frozen BK288.out 3
        have hfz9_4 := blk_frozen BK288.out 4
        go_wp2
        repeat (go_quiet (fail); try go_wp2)
        go_loopg [21] kj1 (fun kq v21 w' => ∃ (x21_2 : Int), v21 = .int .i64 x21_2 ∧ Aside0 (provenanceref2_goodAlts.l0 kq l0_4 (l0_4.length : Int) x21_2 a0_0 a0_1 l0_2 l0_3 l0_4 = some r) ∧ Aside0 (kq ≤ kj1) ∧ Aside0 (w'.heap[gb288]? = some (.cells #[.int .i64 a0_0, .int .i64 a0_1, (.slice A0_2 l0_2.length c0_2), (.slice A0_3 l0_3.length c0_3), (.slice A0_4 l0_4.length c0_4)] 28 (0, 0))) ∧ Aside0 (Below w.heap.size w w'))
        case atStart => exact ⟨(0), (by first | rfl | (simp; done) | (simp [*]; done)), H', ⟨Nat.le_refl _⟩, ⟨by (with_reducible repeat (first | refine blk_drewN ?_ _ | refine blk_drew ?_ | refine blk_alloc ?_ _)); exact BK288.out⟩, ⟨by repeat (first | (with_reducible first | exact HB.out | apply below_alloc | apply pw_below_drewN | apply below_drew1 | refine below_set ?_ GE288.out) | exact HB.out)⟩⟩
        case round =>
          clear H'
          try clear c1
          try clear p2
          try clear c4
          try clear c4b0
          try clear c4b1
          try clear c7
          try clear hcz5_0
          try clear hcz5_1
          try clear hcz5_2
          try clear hcz5_3
          try clear hcz5_4
          try clear hcz6_0
          try clear hcz6_1
          try clear hcz6_2
          try clear hcz6_3
          try clear hcz6_4
          try clear hcz8_0
          try clear hcz8_1
          try clear hcz8_2
          try clear hcz8_3
          try clear hcz8_4
          try clear hcz9_0
          try clear hcz9_1
          try clear hcz9_2
          try clear hcz9_3
          try clear hcz9_4
          try clear hfz5_0
          try clear hfz5_1
          try clear hfz5_2
          try clear hfz5_3
          try clear hfz5_4
          try clear hfz6_0
          try clear hfz6_1
          try clear hfz6_2
          try clear hfz6_3
          try clear hfz6_4
          try clear hfz8_0
          try clear hfz8_1
          try clear hfz8_2
          try clear hfz8_3
          try clear hfz8_4
          try clear hfz9_0
          try clear hfz9_1
          try clear hfz9_2
          try clear hfz9_3
          try clear hfz9_4
          try clear p2
          obtain ⟨x21_2, rfl, HA, HK2, BK288, HB⟩ := hrel
          cases gk with
          | zero => exact absurd HA.out (by simp [provenanceref2_goodAlts.l0])
          | succ k2 =>
            have H := HA.out
            clear HA
            simp only [provenanceref2_goodAlts.l0] at H
            by_cases c10 : x21_2 < (l0_4.length : Int)
            · rw [if_pos c10] at H
              have c10b0 : decide (x21_2 < (l0_4.length : Int)) = true := decide_eq_true c10
              clear c10
              by_cases c11 : 0 ≤ x21_2
              · rw [if_pos c11] at H
                have c11b0 : decide (0 ≤ x21_2) = true := decide_eq_true c11
                clear c11
                by_cases c12 : x21_2 < (l0_4.length : Int)
                · rw [if_pos c12] at H
                  have c12b0 : decide (x21_2 < (l0_4.length : Int)) = true := decide_eq_true c12
                  clear c12
                  have H' := Aside0.mk H
                  clear H
                  have p289 : 0 ≤ (x21_2 : Int) := of_decide_eq_true (by first | (with_reducible assumption) | assumption)
                  have q289 : x21_2 < (l0_4.length : Int) := of_decide_eq_true (by first | (with_reducible assumption) | assumption)
                  obtain ⟨ad289, A289_1, c289_1, e289, hx289_0, hx289_1, hl289_1, hi289_1⟩ := at_T86 HR0_4.out x21_2 p289 q289
                  cases e289
                  replace hx289_0 := (HB.out.cell (World.block_lt_of_cell? w _ hx289_0)).trans hx289_0
                  replace hx289_1 := (HB.out.cell (World.block_lt_of_cell? w _ hx289_1)).trans hx289_1
                  have HR289_1 := Aside0.mk hi289_1
                  have HC289_1 := Aside0.mk hl289_1
                  clear hi289_1 hl289_1
                  replace p289 := eq_true p289
                  replace q289 := eq_true q289
                  go_wp2_with (first | ((with_reducible refine gate_dst (N := 4) rfl ?_); (try (refine gate_guard (by rfl) ?_; dsimp only)); refine box_event ?hg (N := 4) ?hd (cs := #[.int .i64 0, .slice none 0 0]) (t := 86) ?hr ?_; (case hd => rfl); (case hg => rfl); (case hr => first | (go_simp; done) | (go_simp; rfl)); intro gb290 hg w13 hbox hb; have n0_ := Aside0.mk (blk_below (g := gb288) (o := .cells #[.int .i64 a0_0, .int .i64 a0_1, .slice A0_2 l0_2.length c0_2, .slice A0_3 l0_3.length c0_3, .slice (some ad289) l0_4.length c0_4] 28 (0, 0)) (by (with_reducible repeat (first | refine blk_drewN ?_ _ | refine blk_drew ?_ | refine blk_alloc ?_ _)); exact BK288.out) hb); have n1_ := Aside0.mk (below_step (by repeat (first | (with_reducible first | exact HB.out | apply below_alloc | apply pw_below_drewN | apply below_drew1 | refine below_set ?_ GE288.out) | exact HB.out)) hb); have n2_ := Aside0.mk (hbox); have n3_ := Aside0.mk ((by rw [hg]; exact (below_size (by repeat (first | (with_reducible first | exact HB.out | apply below_alloc | apply pw_below_drewN | apply below_drew1 | refine below_set ?_ GE288.out) | exact HB.out))) : w.heap.size ≤ gb290)); have n4_ := Aside0.mk ((by rw [hg]; exact (below_size (by repeat (first | (with_reducible first | exact HB.out | apply below_alloc | apply pw_below_drewN | apply below_drew1 | refine below_set ?_ GE288.out) | exact HB.out))) : w.heap.size ≤ gb290)); have n5_ := Aside0.mk ((by rw [hg]; exact Nat.ne_of_lt (blk_lt (g := gb288) (o := .cells #[.int .i64 a0_0, .int .i64 a0_1, .slice A0_2 l0_2.length c0_2, .slice A0_3 l0_3.length c0_3, .slice (some ad289) l0_4.length c0_4] 28 (0, 0)) (by (with_reducible repeat (first | refine blk_drewN ?_ _ | refine blk_drew ?_ | refine blk_alloc ?_ _)); exact BK288.out)) : gb288 ≠ gb290)); have n6_ := Aside0.mk ((by rw [hg]; exact Nat.ne_of_gt (blk_lt (g := gb288) (o := .cells #[.int .i64 a0_0, .int .i64 a0_1, .slice A0_2 l0_2.length c0_2, .slice A0_3 l0_3.length c0_3, .slice (some ad289) l0_4.length c0_4] 28 (0, 0)) (by (with_reducible repeat (first | refine blk_drewN ?_ _ | refine blk_drew ?_ | refine blk_alloc ?_ _)); exact BK288.out)) : gb290 ≠ gb288)); clear BK288; clear HB; have BK288 := n0_; have HB := n1_; have BK290 := n2_; have GW290 := n3_; have GE290 := n4_; have NB288_290 := n5_; have NB290_288 := n6_; clear n0_ n1_ n2_ n3_ n4_ n5_ n6_; clear hb hbox hg; have hnb14 := NB290_288.out; have hnc14 := NB288_290.out; have hcz15_0 : w13.cell? ⟨gb290, 0, none⟩ = some (.int .i64 0) := (blk_cell BK290.out 0).trans rfl; have hcz15_1 : w13.cell? ⟨gb290, 1, none⟩ = some (.slice none 0 0) := (blk_cell BK290.out 1).trans rfl; have hfz15_0 := blk_frozen BK290.out 0; have hfz15_1 := blk_frozen BK290.out 1))
                  repeat (go_quiet (first | ((with_reducible refine gate_dst (N := 4) rfl ?_); (try (refine gate_guard (by rfl) ?_; dsimp only)); refine box_event ?hg (N := 4) ?hd (cs := #[.int .i64 0, .slice none 0 0]) (t := 86) ?hr ?_; (case hd => rfl); (case hg => rfl); (case hr => first | (go_simp; done) | (go_simp; rfl)); intro gb290 hg w13 hbox hb; have n0_ := Aside0.mk (blk_below (g := gb288) (o := .cells #[.int .i64 a0_0, .int .i64 a0_1, .slice A0_2 l0_2.length c0_2, .slice A0_3 l0_3.length c0_3, .slice (some ad289) l0_4.length c0_4] 28 (0, 0)) (by (with_reducible repeat (first | refine blk_drewN ?_ _ | refine blk_drew ?_ | refine blk_alloc ?_ _)); exact BK288.out) hb); have n1_ := Aside0.mk (below_step (by repeat (first | (with_reducible first | exact HB.out | apply below_alloc | apply pw_below_drewN | apply below_drew1 | refine below_set ?_ GE288.out) | exact HB.out)) hb); have n2_ := Aside0.mk (hbox); have n3_ := Aside0.mk ((by rw [hg]; exact (below_size (by repeat (first | (with_reducible first | exact HB.out | apply below_alloc | apply pw_below_drewN | apply below_drew1 | refine below_set ?_ GE288.out) | exact HB.out))) : w.heap.size ≤ gb290)); have n4_ := Aside0.mk ((by rw [hg]; exact (below_size (by repeat (first | (with_reducible first | exact HB.out | apply below_alloc | apply pw_below_drewN | apply below_drew1 | refine below_set ?_ GE288.out) | exact HB.out))) : w.heap.size ≤ gb290)); have n5_ := Aside0.mk ((by rw [hg]; exact Nat.ne_of_lt (blk_lt (g := gb288) (o := .cells #[.int .i64 a0_0, .int .i64 a0_1, .slice A0_2 l0_2.length c0_2, .slice A0_3 l0_3.length c0_3, .slice (some ad289) l0_4.length c0_4] 28 (0, 0)) (by (with_reducible repeat (first | refine blk_drewN ?_ _ | refine blk_drew ?_ | refine blk_alloc ?_ _)); exact BK288.out)) : gb288 ≠ gb290)); have n6_ := Aside0.mk ((by rw [hg]; exact Nat.ne_of_gt (blk_lt (g := gb288) (o := .cells #[.int .i64 a0_0, .int .i64 a0_1, .slice A0_2 l0_2.length c0_2, .slice A0_3 l0_3.length c0_3, .slice (some ad289) l0_4.length c0_4] 28 (0, 0)) (by (with_reducible repeat (first | refine blk_drewN ?_ _ | refine blk_drew ?_ | refine blk_alloc ?_ _)); exact BK288.out)) : gb290 ≠ gb288)); clear BK288; clear HB; have BK288 := n0_; have HB := n1_; have BK290 := n2_; have GW290 := n3_; have GE290 := n4_; have NB288_290 := n5_; have NB290_288 := n6_; clear n0_ n1_ n2_ n3_ n4_ n5_ n6_; clear hb hbox hg; have hnb14 := NB290_288.out; have hnc14 := NB288_290.out; have hcz15_0 : w13.cell? ⟨gb290, 0, none⟩ = some (.int .i64 0) := (blk_cell BK290.out 0).trans rfl; have hcz15_1 : w13.cell? ⟨gb290, 1, none⟩ = some (.slice none 0 0) := (blk_cell BK290.out 1).trans rfl; have hfz15_0 := blk_frozen BK290.out 0; have hfz15_1 := blk_frozen BK290.out 1)); try go_wp2_with (first | ((with_reducible refine gate_dst (N := 4) rfl ?_); (try (refine gate_guard (by rfl) ?_; dsimp only)); refine box_event ?hg (N := 4) ?hd (cs := #[.int .i64 0, .slice none 0 0]) (t := 86) ?hr ?_; (case hd => rfl); (case hg => rfl); (case hr => first | (go_simp; done) | (go_simp; rfl)); intro gb290 hg w13 hbox hb; have n0_ := Aside0.mk (blk_below (g := gb288) (o := .cells #[.int .i64 a0_0, .int .i64 a0_1, .slice A0_2 l0_2.length c0_2, .slice A0_3 l0_3.length c0_3, .slice (some ad289) l0_4.length c0_4] 28 (0, 0)) (by (with_reducible repeat (first | refine blk_drewN ?_ _ | refine blk_drew ?_ | refine blk_alloc ?_ _)); exact BK288.out) hb); have n1_ := Aside0.mk (below_step (by repeat (first | (with_reducible first | exact HB.out | apply below_alloc | apply pw_below_drewN | apply below_drew1 | refine below_set ?_ GE288.out) | exact HB.out)) hb); have n2_ := Aside0.mk (hbox); have n3_ := Aside0.mk ((by rw [hg]; exact (below_size (by repeat (first | (with_reducible first | exact HB.out | apply below_alloc | apply pw_below_drewN | apply below_drew1 | refine below_set ?_ GE288.out) | exact HB.out))) : w.heap.size ≤ gb290)); have n4_ := Aside0.mk ((by rw [hg]; exact (below_size (by repeat (first | (with_reducible first | exact HB.out | apply below_alloc | apply pw_below_drewN | apply below_drew1 | refine below_set ?_ GE288.out) | exact HB.out))) : w.heap.size ≤ gb290)); have n5_ := Aside0.mk ((by rw [hg]; exact Nat.ne_of_lt (blk_lt (g := gb288) (o := .cells #[.int .i64 a0_0, .int .i64 a0_1, .slice A0_2 l0_2.length c0_2, .slice A0_3 l0_3.length c0_3, .slice (some ad289) l0_4.length c0_4] 28 (0, 0)) (by (with_reducible repeat (first | refine blk_drewN ?_ _ | refine blk_drew ?_ | refine blk_alloc ?_ _)); exact BK288.out)) : gb288 ≠ gb290)); have n6_ := Aside0.mk ((by rw [hg]; exact Nat.ne_of_gt (blk_lt (g := gb288) (o := .cells #[.int .i64 a0_0, .int .i64 a0_1, .slice A0_2 l0_2.length c0_2, .slice A0_3 l0_3.length c0_3, .slice (some ad289) l0_4.length c0_4] 28 (0, 0)) (by (with_reducible repeat (first | refine blk_drewN ?_ _ | refine blk_drew ?_ | refine blk_alloc ?_ _)); exact BK288.out)) : gb290 ≠ gb288)); clear BK288; clear HB; have BK288 := n0_; have HB := n1_; have BK290 := n2_; have GW290 := n3_; have GE290 := n4_; have NB288_290 := n5_; have NB290_288 := n6_; clear n0_ n1_ n2_ n3_ n4_ n5_ n6_; clear hb hbox hg; have hnb14 := NB290_288.out; have hnc14 := NB288_290.out; have hcz15_0 : w13.cell? ⟨gb290, 0, none⟩ = some (.int .i64 0) := (blk_cell BK290.out 0).trans rfl; have hcz15_1 : w13.cell? ⟨gb290, 1, none⟩ = some (.slice none 0 0) := (blk_cell BK290.out 1).trans rfl; have hfz15_0 := blk_frozen BK290.out 0; have hfz15_1 := blk_frozen BK290.out 1)))
                  go_loopg [27] k2 (fun kq v27 w' => ∃ (x27_3 : Int), v27 = .int .i64 x27_3 ∧ Aside0 (provenanceref2_goodAlts.l1 kq x21_2 l0_4 (l0_4.length : Int) x21_2 x21_2 x27_3 a0_0 a0_1 l0_2 l0_3 l0_4 ((rd_T86 l0_4 x21_2).f0) ((rd_T86 l0_4 x21_2).f1) = some r) ∧ Aside0 (kq ≤ k2) ∧ Aside0 (w'.heap[gb288]? = some (.cells #[.int .i64 a0_0, .int .i64 a0_1, (.slice A0_2 l0_2.length c0_2), (.slice A0_3 l0_3.length c0_3), (.slice (some ad289) l0_4.length c0_4)] 28 (0, 0))) ∧ Aside0 (w'.heap[gb290]? = some (.cells #[.int .i64 ((rd_T86 l0_4 x21_2).f0), (.slice A289_1 ((rd_T86 l0_4 x21_2).f1).length c289_1)] 86 (0, 0))) ∧ Aside0 (Below w.heap.size w w'))
                  case atStart => exact ⟨(0), (by first | rfl | (simp; done) | (simp [*]; done)), H', ⟨Nat.le_refl _⟩, ⟨by (with_reducible repeat (first | refine blk_drewN ?_ _ | refine blk_drew ?_ | refine blk_alloc ?_ _)); refine blk_far ?_ NB288_290.out _; (with_reducible repeat (first | refine blk_drewN ?_ _ | refine blk_drew ?_ | refine blk_alloc ?_ _)); refine blk_far ?_ NB288_290.out _; (with_reducible repeat (first | refine blk_drewN ?_ _ | refine blk_drew ?_ | refine blk_alloc ?_ _)); exact BK288.out⟩, ⟨by (with_reducible repeat (first | refine blk_drewN ?_ _ | refine blk_drew ?_ | refine blk_alloc ?_ _)); refine blk_put (cs := #[.int .i64 ((rd_T86 l0_4 x21_2).f0), .slice none 0 0]) ?_ 1 _ rfl; (with_reducible repeat (first | refine blk_drewN ?_ _ | refine blk_drew ?_ | refine blk_alloc ?_ _)); refine blk_put (cs := #[.int .i64 0, .slice none 0 0]) ?_ 0 _ rfl; (with_reducible repeat (first | refine blk_drewN ?_ _ | refine blk_drew ?_ | refine blk_alloc ?_ _)); exact BK290.out⟩, ⟨by repeat (first | (with_reducible first | exact HB.out | apply below_alloc | apply pw_below_drewN | apply below_drew1 | refine below_set ?_ GE288.out | refine below_set ?_ GE290.out) | exact HB.out)⟩⟩
                  case round =>
                    clear H'
                    try clear c1
                    try clear c2
                    try clear p2
                    try clear q2
                    try clear hx2
                    try clear c4
                    try clear c4b0
                    try clear c4b1
                    try clear c7
                    try clear c10
                    try clear c10b0
                    try clear c11
                    try clear c11b0
                    try clear c12
                    try clear c12b0
                    try clear c14
                    try clear hcz15_0
                    try clear hcz15_1
                    try clear hcz5_0
                    try clear hcz5_1
                    try clear hcz5_2
                    try clear hcz5_3
                    try clear hcz5_4
                    try clear hcz6_0
                    try clear hcz6_1
                    try clear hcz6_2
                    try clear hcz6_3
                    try clear hcz6_4
                    try clear hcz8_0
                    try clear hcz8_1
                    try clear hcz8_2
                    try clear hcz8_3
                    try clear hcz8_4
                    try clear hcz9_0
                    try clear hcz9_1
                    try clear hcz9_2
                    try clear hcz9_3
                    try clear hcz9_4
                    try clear hfz15_0
                    try clear hfz15_1
                    try clear hfz5_0
                    try clear hfz5_1
                    try clear hfz5_2
                    try clear hfz5_3
                    try clear hfz5_4
                    try clear hfz6_0
                    try clear hfz6_1
                    try clear hfz6_2
                    try clear hfz6_3
                    try clear hfz6_4
                    try clear hfz8_0
                    try clear hfz8_1
                    try clear hfz8_2
                    try clear hfz8_3
                    try clear hfz8_4
                    try clear hfz9_0
                    try clear hfz9_1
                    try clear hfz9_2
                    try clear hfz9_3
                    try clear hfz9_4
                    try clear hx289_0
                    try clear hx289_1
                    try clear p2
                    try clear p289
                    try clear q289
                    obtain ⟨x27_3, rfl, HA, HK3, BK288, BK290, HB⟩ := hrel
                    cases gk with
                    | zero => exact absurd HA.out (by simp [provenanceref2_goodAlts.l1])
                    | succ k3 =>
                      have H := HA.out
                      clear HA
                      simp only [provenanceref2_goodAlts.l1] at H
                      by_cases c16 : x27_3 < x21_2
                      · rw [if_pos c16] at H
                        have c16b0 : decide (x27_3 < x21_2) = true := decide_eq_true c16
                        clear c16
                        by_cases c17 : 0 ≤ x27_3
                        · rw [if_pos c17] at H
                          have c17b0 : decide (0 ≤ x27_3) = true := decide_eq_true c17
                          clear c17
                          by_cases c18 : x27_3 < (l0_4.length : Int)
                          · rw [if_pos c18] at H
                            have c18b0 : decide (x27_3 < (l0_4.length : Int)) = true := decide_eq_true c18
                            clear c18
                            by_cases c19 : ((rd_T86 l0_4 x27_3).f0) = ((rd_T86 l0_4 x21_2).f0)
                            · rw [if_pos c19] at H
                              have c19b0 : (((rd_T86 l0_4 x27_3).f0) == ((rd_T86 l0_4 x21_2).f0)) = true := beq_iff_eq.mpr c19
                              have c19b1 : (((rd_T86 l0_4 x27_3).f0) != ((rd_T86 l0_4 x21_2).f0)) = false := bne_eq_false_iff_eq.mpr c19
                              clear c19
                              obtain rfl := Option.some.inj H
                              have hnb20 := NB288_290.out
                              have hnc20 := NB290_288.out
                              have hcz21_0 : wr.cell? ⟨gb288, 0, none⟩ = some (.int .i64 a0_0) := (blk_cell BK288.out 0).trans rfl
                              have hcz21_1 : wr.cell? ⟨gb288, 1, none⟩ = some (.int .i64 a0_1) := (blk_cell BK288.out 1).trans rfl
                              have hcz21_2 : wr.cell? ⟨gb288, 2, none⟩ = some (.slice A0_2 l0_2.length c0_2) := (blk_cell BK288.out 2).trans rfl
                              have hcz21_3 : wr.cell? ⟨gb288, 3, none⟩ = some (.slice A0_3 l0_3.length c0_3) := (blk_cell BK288.out 3).trans rfl
                              have hcz21_4 : wr.cell? ⟨gb288, 4, none⟩ = some (.slice (some ad289) l0_4.length c0_4) := (blk_cell BK288.out 4).trans rfl
                              have hfz21_0 := blk_frozen BK288.out 0
                              have hfz21_1 := blk_frozen BK288.out 1
                              have hfz21_2 := blk_frozen BK288.out 2
                              have hfz21_3 := blk_frozen BK288.out 3
                              have hfz21_4 := blk_frozen BK288.out 4
                              have p291 : 0 ≤ (x27_3 : Int) := of_decide_eq_true (by first | (with_reducible assumption) | assumption)
                              have q291 : x27_3 < (l0_4.length : Int) := of_decide_eq_true (by first | (with_reducible assumption) | assumption)
                              obtain ⟨ad291, A291_1, c291_1, e291, hx291_0, hx291_1, hl291_1, hi291_1⟩ := at_T86 HR0_4.out x27_3 p291 q291
                              obtain rfl : ad289 = ad291 := (by injection e291)
                              replace hx291_0 := (HB.out.cell (World.block_lt_of_cell? w _ hx291_0)).trans hx291_0
                              replace hx291_1 := (HB.out.cell (World.block_lt_of_cell? w _ hx291_1)).trans hx291_1
                              have HR291_1 := Aside0.mk hi291_1
                              have HC291_1 := Aside0.mk hl291_1
                              clear hi291_1 hl291_1
                              replace p291 := eq_true p291
                              replace q291 := eq_true q291
                              have hcz22_0 : wr.cell? ⟨gb290, 0, none⟩ = some (.int .i64 ((rd_T86 l0_4 x21_2).f0)) := (blk_cell BK290.out 0).trans rfl
                              have hcz22_1 : wr.cell? ⟨gb290, 1, none⟩ = some (.slice A289_1 ((rd_T86 l0_4 x21_2).f1).length c289_1) := (blk_cell BK290.out 1).trans rfl
                              have hfz22_0 := blk_frozen BK290.out 0
                              have hfz22_1 := blk_frozen BK290.out 1
                              go_wp2
                              repeat (go_quiet (fail); try go_wp2)
                              go_ret
                              exact ⟨by first | rfl | (simp [errW_none, errW_some] <;> rfl) | (simp [*, errW_none, errW_some] <;> rfl), by repeat (first | (with_reducible first | exact HB.out | apply below_alloc | apply pw_below_drewN | apply below_drew1 | refine below_set ?_ GE288.out | refine below_set ?_ GE290.out) | exact HB.out)⟩
                            · rw [if_neg c19] at H
                              have c19b0 : (((rd_T86 l0_4 x27_3).f0) == ((rd_T86 l0_4 x21_2).f0)) = false := beq_eq_false_iff_ne.mpr c19
                              have c19b1 : (((rd_T86 l0_4 x27_3).f0) != ((rd_T86 l0_4 x21_2).f0)) = true := bne_iff_ne.mpr c19
                              have H' := Aside0.mk H
                              clear H
                              have hnb23 := NB288_290.out
                              have hnc23 := NB290_288.out
                              have hcz24_0 : wr.cell? ⟨gb288, 0, none⟩ = some (.int .i64 a0_0) := (blk_cell BK288.out 0).trans rfl
                              have hcz24_1 : wr.cell? ⟨gb288, 1, none⟩ = some (.int .i64 a0_1) := (blk_cell BK288.out 1).trans rfl
                              have hcz24_2 : wr.cell? ⟨gb288, 2, none⟩ = some (.slice A0_2 l0_2.length c0_2) := (blk_cell BK288.out 2).trans rfl
                              have hcz24_3 : wr.cell? ⟨gb288, 3, none⟩ = some (.slice A0_3 l0_3.length c0_3) := (blk_cell BK288.out 3).trans rfl
                              have hcz24_4 : wr.cell? ⟨gb288, 4, none⟩ = some (.slice (some ad289) l0_4.length c0_4) := (blk_cell BK288.out 4).trans rfl
                              have hfz24_0 := blk_frozen BK288.out 0
                              have hfz24_1 := blk_frozen BK288.out 1
                              have hfz24_2 := blk_frozen BK288.out 2
                              have hfz24_3 := blk_frozen BK288.out 3
                              have hfz24_4 := blk_frozen BK288.out 4
                              have p291 : 0 ≤ (x27_3 : Int) := of_decide_eq_true (by first | (with_reducible assumption) | assumption)
                              have q291 : x27_3 < (l0_4.length : Int) := of_decide_eq_true (by first | (with_reducible assumption) | assumption)
                              obtain ⟨ad291, A291_1, c291_1, e291, hx291_0, hx291_1, hl291_1, hi291_1⟩ := at_T86 HR0_4.out x27_3 p291 q291
                              obtain rfl : ad289 = ad291 := (by injection e291)
                              replace hx291_0 := (HB.out.cell (World.block_lt_of_cell? w _ hx291_0)).trans hx291_0
                              replace hx291_1 := (HB.out.cell (World.block_lt_of_cell? w _ hx291_1)).trans hx291_1
                              have HR291_1 := Aside0.mk hi291_1
                              have HC291_1 := Aside0.mk hl291_1
                              clear hi291_1 hl291_1
                              replace p291 := eq_true p291
                              replace q291 := eq_true q291
                              have hcz25_0 : wr.cell? ⟨gb290, 0, none⟩ = some (.int .i64 ((rd_T86 l0_4 x21_2).f0)) := (blk_cell BK290.out 0).trans rfl
                              have hcz25_1 : wr.cell? ⟨gb290, 1, none⟩ = some (.slice A289_1 ((rd_T86 l0_4 x21_2).f1).length c289_1) := (blk_cell BK290.out 1).trans rfl
                              have hfz25_0 := blk_frozen BK290.out 0
                              have hfz25_1 := blk_frozen BK290.out 1
                              go_wp2
                              repeat (go_quiet (fail); try go_wp2)
                              go_roundg k3
                              case measure => have := HJ1.out; have := HK2.out; have := HK3.out; omega
                              case rel => exact ⟨(wrap64 (x27_3 + 1)), (by first | rfl | (simp; done) | (simp [*]; done)), H', ⟨by have := HJ1.out; have := HK2.out; have := HK3.out; omega⟩, ⟨by (with_reducible repeat (first | refine blk_drewN ?_ _ | refine blk_drew ?_ | refine blk_alloc ?_ _)); exact BK288.out⟩, ⟨by (with_reducible repeat (first | refine blk_drewN ?_ _ | refine blk_drew ?_ | refine blk_alloc ?_ _)); exact BK290.out⟩, ⟨by repeat (first | (with_reducible first | exact HB.out | apply below_alloc | apply pw_below_drewN | apply below_drew1 | refine below_set ?_ GE288.out | refine below_set ?_ GE290.out) | exact HB.out)⟩⟩
                          · rw [if_neg c18] at H
                            exact absurd H (by simp)
                        · rw [if_neg c17] at H
                          exact absurd H (by simp)
                      · rw [if_neg c16] at H
                        have c16b0 : decide (x27_3 < x21_2) = false := decide_eq_false c16
                        clear c16
                        by_cases c26 : ((rd_T86 l0_4 x21_2).f0) < (-1)
                        · rw [if_pos c26] at H
                          have c26b0 : decide (((rd_T86 l0_4 x21_2).f0) < (-1)) = true := decide_eq_true c26
                          clear c26
                          obtain rfl := Option.some.inj H
                          have hnb27 := NB290_288.out
                          have hnc27 := NB288_290.out
                          have hcz28_0 : wr.cell? ⟨gb290, 0, none⟩ = some (.int .i64 ((rd_T86 l0_4 x21_2).f0)) := (blk_cell BK290.out 0).trans rfl
                          have hcz28_1 : wr.cell? ⟨gb290, 1, none⟩ = some (.slice A289_1 ((rd_T86 l0_4 x21_2).f1).length c289_1) := (blk_cell BK290.out 1).trans rfl
                          have hfz28_0 := blk_frozen BK290.out 0
                          have hfz28_1 := blk_frozen BK290.out 1
                          go_wp2
                          repeat (go_quiet (fail); try go_wp2)
                          go_ret
                          exact ⟨by first | rfl | (simp [errW_none, errW_some] <;> rfl) | (simp [*, errW_none, errW_some] <;> rfl), by repeat (first | (with_reducible first | exact HB.out | apply below_alloc | apply pw_below_drewN | apply below_drew1 | refine below_set ?_ GE288.out | refine below_set ?_ GE290.out) | exact HB.out)⟩
                        · rw [if_neg c26] at H
                          have c26b0 : decide (((rd_T86 l0_4 x21_2).f0) < (-1)) = false := decide_eq_false c26
                          clear c26
                          have HC29 := Aside0.mk H
                          clear H
                          have hnb30 := NB290_288.out
                          have hnc30 := NB288_290.out
                          have hcz31_0 : wr.cell? ⟨gb290, 0, none⟩ = some (.int .i64 ((rd_T86 l0_4 x21_2).f0)) := (blk_cell BK290.out 0).trans rfl
                          have hcz31_1 : wr.cell? ⟨gb290, 1, none⟩ = some (.slice A289_1 ((rd_T86 l0_4 x21_2).f1).length c289_1) := (blk_cell BK290.out 1).trans rfl
                          have hfz31_0 := blk_frozen BK290.out 0
                          have hfz31_1 := blk_frozen BK290.out 1
                          go_upto_region 14 with (fail)
                          repeat (go_quiet (fail); go_upto_region 14 with (fail))
                          go_cut [64] (fun v64 wc => ∃ (kq : Nat) (x64_28 : Bool), v64 = .bool x64_28 ∧ Aside0 (provenanceref2_goodAlts.j3 kq x21_2 l0_4 (l0_4.length : Int) x21_2 x64_28 a0_0 a0_1 l0_2 l0_3 l0_4 ((rd_T86 l0_4 x21_2).f0) ((rd_T86 l0_4 x21_2).f1) = some r) ∧ Aside0 (kq ≤ k3) ∧ Aside0 (wc.heap[gb288]? = some (.cells #[.int .i64 a0_0, .int .i64 a0_1, (.slice A0_2 l0_2.length c0_2), (.slice A0_3 l0_3.length c0_3), (.slice (some ad289) l0_4.length c0_4)] 28 (0, 0))) ∧ Aside0 (wc.heap[gb290]? = some (.cells #[.int .i64 ((rd_T86 l0_4 x21_2).f0), (.slice A289_1 ((rd_T86 l0_4 x21_2).f1).length c289_1)] 86 (0, 0))) ∧ Aside0 (Below w.heap.size w wc))
                          case first =>
                            have H := HC29.out
                            clear HC29
                            by_cases c32 : a0_0 = 7
                            · rw [if_pos c32] at H
                              have c32b0 : (a0_0 == 7) = true := beq_iff_eq.mpr c32
                              have c32b1 : (a0_0 != 7) = false := bne_eq_false_iff_eq.mpr c32
                              clear c32
                              (first | rw [c32b0] | (simp only [i64_w, i32_w]; rw [c32b0]) | skip)
                              by_cases c33 : ((rd_T86 l0_4 x21_2).f0) = (-1)
                              · rw [if_pos c33] at H
                                have c33b0 : (((rd_T86 l0_4 x21_2).f0) == (-1)) = true := beq_iff_eq.mpr c33
                                have c33b1 : (((rd_T86 l0_4 x21_2).f0) != (-1)) = false := bne_eq_false_iff_eq.mpr c33
                                clear c33
                                by_cases c34 : (wrap64 (x21_2 + 1)) < (l0_4.length : Int)
                                · rw [if_pos c34] at H
                                  have c34b0 : decide ((wrap64 (x21_2 + 1)) < (l0_4.length : Int)) = true := decide_eq_true c34
                                  clear c34
                                  have H' := Aside0.mk H
                                  clear H
                                  have hnb35 := NB288_290.out
                                  have hnc35 := NB290_288.out
                                  have hcz36_0 : wr.cell? ⟨gb288, 0, none⟩ = some (.int .i64 a0_0) := (blk_cell BK288.out 0).trans rfl
                                  have hcz36_1 : wr.cell? ⟨gb288, 1, none⟩ = some (.int .i64 a0_1) := (blk_cell BK288.out 1).trans rfl
                                  have hcz36_2 : wr.cell? ⟨gb288, 2, none⟩ = some (.slice A0_2 l0_2.length c0_2) := (blk_cell BK288.out 2).trans rfl
                                  have hcz36_3 : wr.cell? ⟨gb288, 3, none⟩ = some (.slice A0_3 l0_3.length c0_3) := (blk_cell BK288.out 3).trans rfl
                                  have hcz36_4 : wr.cell? ⟨gb288, 4, none⟩ = some (.slice (some ad289) l0_4.length c0_4) := (blk_cell BK288.out 4).trans rfl
                                  have hfz36_0 := blk_frozen BK288.out 0
                                  have hfz36_1 := blk_frozen BK288.out 1
                                  have hfz36_2 := blk_frozen BK288.out 2
                                  have hfz36_3 := blk_frozen BK288.out 3
                                  have hfz36_4 := blk_frozen BK288.out 4
                                  have hcz37_0 : wr.cell? ⟨gb290, 0, none⟩ = some (.int .i64 ((rd_T86 l0_4 x21_2).f0)) := (blk_cell BK290.out 0).trans rfl
                                  have hcz37_1 : wr.cell? ⟨gb290, 1, none⟩ = some (.slice A289_1 ((rd_T86 l0_4 x21_2).f1).length c289_1) := (blk_cell BK290.out 1).trans rfl
                                  have hfz37_0 := blk_frozen BK290.out 0
                                  have hfz37_1 := blk_frozen BK290.out 1
                                  go_wp2
                                  repeat (go_quiet (fail); try go_wp2)
                                  go_meet
                                  case rel => exact ⟨_, (true), (by first | rfl | (simp; done) | (simp [*]; done)), H', ⟨by have := HJ1.out; have := HK2.out; have := HK3.out; first | omega | exact Nat.le_refl _⟩, ⟨by (with_reducible repeat (first | refine blk_drewN ?_ _ | refine blk_drew ?_ | refine blk_alloc ?_ _)); exact BK288.out⟩, ⟨by (with_reducible repeat (first | refine blk_drewN ?_ _ | refine blk_drew ?_ | refine blk_alloc ?_ _)); exact BK290.out⟩, ⟨by repeat (first | (with_reducible first | exact HB.out | apply below_alloc | apply pw_below_drewN | apply below_drew1 | refine below_set ?_ GE288.out | refine below_set ?_ GE290.out) | exact HB.out)⟩⟩
                                · rw [if_neg c34] at H
                                  have c34b0 : decide ((wrap64 (x21_2 + 1)) < (l0_4.length : Int)) = false := decide_eq_false c34
                                  clear c34
                                  have H' := Aside0.mk H
                                  clear H
                                  have hnb38 := NB288_290.out
                                  have hnc38 := NB290_288.out
                                  have hcz39_0 : wr.cell? ⟨gb288, 0, none⟩ = some (.int .i64 a0_0) := (blk_cell BK288.out 0).trans rfl
                                  have hcz39_1 : wr.cell? ⟨gb288, 1, none⟩ = some (.int .i64 a0_1) := (blk_cell BK288.out 1).trans rfl
                                  have hcz39_2 : wr.cell? ⟨gb288, 2, none⟩ = some (.slice A0_2 l0_2.length c0_2) := (blk_cell BK288.out 2).trans rfl
                                  have hcz39_3 : wr.cell? ⟨gb288, 3, none⟩ = some (.slice A0_3 l0_3.length c0_3) := (blk_cell BK288.out 3).trans rfl
                                  have hcz39_4 : wr.cell? ⟨gb288, 4, none⟩ = some (.slice (some ad289) l0_4.length c0_4) := (blk_cell BK288.out 4).trans rfl
                                  have hfz39_0 := blk_frozen BK288.out 0
                                  have hfz39_1 := blk_frozen BK288.out 1
                                  have hfz39_2 := blk_frozen BK288.out 2
                                  have hfz39_3 := blk_frozen BK288.out 3
                                  have hfz39_4 := blk_frozen BK288.out 4
                                  have hcz40_0 : wr.cell? ⟨gb290, 0, none⟩ = some (.int .i64 ((rd_T86 l0_4 x21_2).f0)) := (blk_cell BK290.out 0).trans rfl
                                  have hcz40_1 : wr.cell? ⟨gb290, 1, none⟩ = some (.slice A289_1 ((rd_T86 l0_4 x21_2).f1).length c289_1) := (blk_cell BK290.out 1).trans rfl
                                  have hfz40_0 := blk_frozen BK290.out 0
                                  have hfz40_1 := blk_frozen BK290.out 1
                                  go_wp2
                                  repeat (go_quiet (fail); try go_wp2)
                                  go_meet
                                  case rel => exact ⟨_, (((((rd_T86 l0_4 x21_2).f1).length : Int) != 0)), (by first | rfl | (simp; done) | (simp [*]; done)), H', ⟨by have := HJ1.out; have := HK2.out; have := HK3.out; first | omega | exact Nat.le_refl _⟩, ⟨by (with_reducible repeat (first | refine blk_drewN ?_ _ | refine blk_drew ?_ | refine blk_alloc ?_ _)); exact BK288.out⟩, ⟨by (with_reducible repeat (first | refine blk_drewN ?_ _ | refine blk_drew ?_ | refine blk_alloc ?_ _)); exact BK290.out⟩, ⟨by repeat (first | (with_reducible first | exact HB.out | apply below_alloc | apply pw_below_drewN | apply below_drew1 | refine below_set ?_ GE288.out | refine below_set ?_ GE290.out) | exact HB.out)⟩⟩
                              · rw [if_neg c33] at H
                                have c33b0 : (((rd_T86 l0_4 x21_2).f0) == (-1)) = false := beq_eq_false_iff_ne.mpr c33
                                have c33b1 : (((rd_T86 l0_4 x21_2).f0) != (-1)) = true := bne_iff_ne.mpr c33
                                have H' := Aside0.mk H
                                clear H
                                have hnb41 := NB288_290.out
                                have hnc41 := NB290_288.out
                                have hcz42_0 : wr.cell? ⟨gb288, 0, none⟩ = some (.int .i64 a0_0) := (blk_cell BK288.out 0).trans rfl
                                have hcz42_1 : wr.cell? ⟨gb288, 1, none⟩ = some (.int .i64 a0_1) := (blk_cell BK288.out 1).trans rfl
                                have hcz42_2 : wr.cell? ⟨gb288, 2, none⟩ = some (.slice A0_2 l0_2.length c0_2) := (blk_cell BK288.out 2).trans rfl
                                have hcz42_3 : wr.cell? ⟨gb288, 3, none⟩ = some (.slice A0_3 l0_3.length c0_3) := (blk_cell BK288.out 3).trans rfl
                                have hcz42_4 : wr.cell? ⟨gb288, 4, none⟩ = some (.slice (some ad289) l0_4.length c0_4) := (blk_cell BK288.out 4).trans rfl
                                have hfz42_0 := blk_frozen BK288.out 0
                                have hfz42_1 := blk_frozen BK288.out 1
                                have hfz42_2 := blk_frozen BK288.out 2
                                have hfz42_3 := blk_frozen BK288.out 3
                                have hfz42_4 := blk_frozen BK288.out 4
                                have hcz43_0 : wr.cell? ⟨gb290, 0, none⟩ = some (.int .i64 ((rd_T86 l0_4 x21_2).f0)) := (blk_cell BK290.out 0).trans rfl
                                have hcz43_1 : wr.cell? ⟨gb290, 1, none⟩ = some (.slice A289_1 ((rd_T86 l0_4 x21_2).f1).length c289_1) := (blk_cell BK290.out 1).trans rfl
                                have hfz43_0 := blk_frozen BK290.out 0
                                have hfz43_1 := blk_frozen BK290.out 1
                                go_wp2
                                repeat (go_quiet (fail); try go_wp2)
                                go_meet
                                case rel => exact ⟨_, (false), (by first | rfl | (simp; done) | (simp [*]; done)), H', ⟨by have := HJ1.out; have := HK2.out; have := HK3.out; first | omega | exact Nat.le_refl _⟩, ⟨by (with_reducible repeat (first | refine blk_drewN ?_ _ | refine blk_drew ?_ | refine blk_alloc ?_ _)); exact BK288.out⟩, ⟨by (with_reducible repeat (first | refine blk_drewN ?_ _ | refine blk_drew ?_ | refine blk_alloc ?_ _)); exact BK290.out⟩, ⟨by repeat (first | (with_reducible first | exact HB.out | apply below_alloc | apply pw_below_drewN | apply below_drew1 | refine below_set ?_ GE288.out | refine below_set ?_ GE290.out) | exact HB.out)⟩⟩
                            · rw [if_neg c32] at H
                              have c32b0 : (a0_0 == 7) = false := beq_eq_false_iff_ne.mpr c32
                              have c32b1 : (a0_0 != 7) = true := bne_iff_ne.mpr c32
                              (first | rw [c32b0] | (simp only [i64_w, i32_w]; rw [c32b0]) | skip)
                              have H' := Aside0.mk H
                              clear H
                              have hnb44 := NB288_290.out
                              have hnc44 := NB290_288.out
                              have hcz45_0 : wr.cell? ⟨gb288, 0, none⟩ = some (.int .i64 a0_0) := (blk_cell BK288.out 0).trans rfl
                              have hcz45_1 : wr.cell? ⟨gb288, 1, none⟩ = some (.int .i64 a0_1) := (blk_cell BK288.out 1).trans rfl
                              have hcz45_2 : wr.cell? ⟨gb288, 2, none⟩ = some (.slice A0_2 l0_2.length c0_2) := (blk_cell BK288.out 2).trans rfl
                              have hcz45_3 : wr.cell? ⟨gb288, 3, none⟩ = some (.slice A0_3 l0_3.length c0_3) := (blk_cell BK288.out 3).trans rfl
                              have hcz45_4 : wr.cell? ⟨gb288, 4, none⟩ = some (.slice (some ad289) l0_4.length c0_4) := (blk_cell BK288.out 4).trans rfl
                              have hfz45_0 := blk_frozen BK288.out 0
                              have hfz45_1 := blk_frozen BK288.out 1
                              have hfz45_2 := blk_frozen BK288.out 2
                              have hfz45_3 := blk_frozen BK288.out 3
                              have hfz45_4 := blk_frozen BK288.out 4
                              go_wp2
                              repeat (go_quiet (fail); try go_wp2)
                              go_meet
                              case rel => exact ⟨_, (false), (by first | rfl | (simp; done) | (simp [*]; done)), H', ⟨by have := HJ1.out; have := HK2.out; have := HK3.out; first | omega | exact Nat.le_refl _⟩, ⟨by (with_reducible repeat (first | refine blk_drewN ?_ _ | refine blk_drew ?_ | refine blk_alloc ?_ _)); exact BK288.out⟩, ⟨by (with_reducible repeat (first | refine blk_drewN ?_ _ | refine blk_drew ?_ | refine blk_alloc ?_ _)); exact BK290.out⟩, ⟨by repeat (first | (with_reducible first | exact HB.out | apply below_alloc | apply pw_below_drewN | apply below_drew1 | refine below_set ?_ GE288.out | refine below_set ?_ GE290.out) | exact HB.out)⟩⟩
                          case rest =>
                            clear HC29
                            try clear c1
                            try clear c2
                            try clear p2
                            try clear q2
                            try clear hx2
                            try clear c3
                            try clear c4
                            try clear c4b0
                            try clear c4b1
                            try clear p6
                            try clear c7
                            try clear c10
                            try clear c10b0
                            try clear c11
                            try clear c11b0
                            try clear c12
                            try clear c12b0
                            try clear c14
                            try clear c16
                            try clear c16b0
                            try clear c17
                            try clear c17b0
                            try clear c18
                            try clear c18b0
                            try clear c19
                            try clear c19b0
                            try clear c19b1
                            try clear c20
                            try clear c23
                            try clear c26
                            try clear c26b0
                            try clear c27
                            try clear c28
                            try clear p28
                            try clear q28
                            try clear hx28
                            try clear c29
                            try clear p29
                            try clear q29
                            try clear hx29
                            try clear c30
                            try clear c32
                            try clear c32b0
                            try clear c32b1
                            try clear c33
                            try clear c33b0
                            try clear c33b1
                            try clear c34
                            try clear c34b0
                            try clear c35
                            try clear c38
                            try clear c41
                            try clear c44
                            try clear hcz15_0
                            try clear hcz15_1
                            try clear hcz21_0
                            try clear hcz21_1
                            try clear hcz21_2
                            try clear hcz21_3
                            try clear hcz21_4
                            try clear hcz22_0
                            try clear hcz22_1
                            try clear hcz24_0
                            try clear hcz24_1
                            try clear hcz24_2
                            try clear hcz24_3
                            try clear hcz24_4
                            try clear hcz25_0
                            try clear hcz25_1
                            try clear hcz28_0
                            try clear hcz28_1
                            try clear hcz31_0
                            try clear hcz31_1
                            try clear hcz36_0
                            try clear hcz36_1
                            try clear hcz36_2
                            try clear hcz36_3
                            try clear hcz36_4
                            try clear hcz37_0
                            try clear hcz37_1
                            try clear hcz39_0
                            try clear hcz39_1
                            try clear hcz39_2
                            try clear hcz39_3
                            try clear hcz39_4
                            try clear hcz40_0
                            try clear hcz40_1
                            try clear hcz42_0
                            try clear hcz42_1
                            try clear hcz42_2
                            try clear hcz42_3
                            try clear hcz42_4
                            try clear hcz43_0
                            try clear hcz43_1
                            try clear hcz45_0
                            try clear hcz45_1
                            try clear hcz45_2
                            try clear hcz45_3
                            try clear hcz45_4
                            try clear hcz5_0
                            try clear hcz5_1
                            try clear hcz5_2
                            try clear hcz5_3
                            try clear hcz5_4
                            try clear hcz6_0
                            try clear hcz6_1
                            try clear hcz6_2
                            try clear hcz6_3
                            try clear hcz6_4
                            try clear hcz8_0
                            try clear hcz8_1
                            try clear hcz8_2
                            try clear hcz8_3
                            try clear hcz8_4
                            try clear hcz9_0
                            try clear hcz9_1
                            try clear hcz9_2
                            try clear hcz9_3
                            try clear hcz9_4
                            try clear hfz15_0
                            try clear hfz15_1
                            try clear hfz21_0
                            try clear hfz21_1
                            try clear hfz21_2
                            try clear hfz21_3
                            try clear hfz21_4
                            try clear hfz22_0
                            try clear hfz22_1
                            try clear hfz24_0
                            try clear hfz24_1
                            try clear hfz24_2
                            try clear hfz24_3
                            try clear hfz24_4
                            try clear hfz25_0
                            try clear hfz25_1
                            try clear hfz28_0
                            try clear hfz28_1
                            try clear hfz31_0
                            try clear hfz31_1
                            try clear hfz36_0
                            try clear hfz36_1
                            try clear hfz36_2
                            try clear hfz36_3
                            try clear hfz36_4
                            try clear hfz37_0
                            try clear hfz37_1
                            try clear hfz39_0
                            try clear hfz39_1
                            try clear hfz39_2
                            try clear hfz39_3
                            try clear hfz39_4
                            try clear hfz40_0
                            try clear hfz40_1
                            try clear hfz42_0
                            try clear hfz42_1
                            try clear hfz42_2
                            try clear hfz42_3
                            try clear hfz42_4
                            try clear hfz43_0
                            try clear hfz43_1
                            try clear hfz45_0
                            try clear hfz45_1
                            try clear hfz45_2
                            try clear hfz45_3
                            try clear hfz45_4
                            try clear hfz5_0
                            try clear hfz5_1
                            try clear hfz5_2
                            try clear hfz5_3
                            try clear hfz5_4
                            try clear hfz6_0
                            try clear hfz6_1
                            try clear hfz6_2
                            try clear hfz6_3
                            try clear hfz6_4
                            try clear hfz8_0
                            try clear hfz8_1
                            try clear hfz8_2
                            try clear hfz8_3
                            try clear hfz8_4
                            try clear hfz9_0
                            try clear hfz9_1
                            try clear hfz9_2
                            try clear hfz9_3
                            try clear hfz9_4
                            try clear hx289_0
                            try clear hx289_1
                            try clear hx291_0
                            try clear hx291_1
                            try clear p2
                            try clear p289
                            try clear p291
                            try clear q2
                            try clear q289
                            try clear q291
                            obtain ⟨kq, x64_28, rfl, HA, HJ28, BK288, BK290, HB⟩ := hcut
                            cases kq with
                            | zero => exact absurd HA.out (by simp [provenanceref2_goodAlts.j3])
                            | succ kj28 =>
                              have H := HA.out
                              clear HA
                              simp only [provenanceref2_goodAlts.j3] at H
                              by_cases c46 : x64_28 = true
                              · subst c46
                                have H1 : (some false) = some r := by rw [if_pos rfl] at H; exact H
                                clear H
                                have H := H1
                                clear H1
                                obtain rfl := Option.some.inj H
                                go_wp2
                                repeat (go_quiet (fail); try go_wp2)
                                go_ret
                                exact ⟨by first | rfl | (simp [errW_none, errW_some] <;> rfl) | (simp [*, errW_none, errW_some] <;> rfl), by repeat (first | (with_reducible first | exact HB.out | apply below_alloc | apply pw_below_drewN | apply below_drew1 | refine below_set ?_ GE288.out | refine below_set ?_ GE290.out) | exact HB.out)⟩
                              · replace c46 := Bool.eq_false_iff.mpr c46
                                subst c46
                                have H1 : (if a0_0 = 13 then (if x21_2 = 0 then (if ((rd_T86 l0_4 x21_2).f0) = (-1) then (if (((rd_T86 l0_4 x21_2).f1).length : Int) = 1 then (if x21_2 > 0 then (if ((rd_T86 l0_4 x21_2).f0) < 0 then (some false) else (if (((rd_T86 l0_4 x21_2).f1).length : Int) = 2 then (provenanceref2_goodAlts.l0 kj28 l0_4 (l0_4.length : Int) (wrap64 (x21_2 + 1)) a0_0 a0_1 l0_2 l0_3 l0_4) else (some false))) else (provenanceref2_goodAlts.l0 kj28 l0_4 (l0_4.length : Int) (wrap64 (x21_2 + 1)) a0_0 a0_1 l0_2 l0_3 l0_4)) else (some false)) else (some false)) else (if x21_2 > 0 then (if ((rd_T86 l0_4 x21_2).f0) < 0 then (some false) else (if (((rd_T86 l0_4 x21_2).f1).length : Int) = 2 then (provenanceref2_goodAlts.l0 kj28 l0_4 (l0_4.length : Int) (wrap64 (x21_2 + 1)) a0_0 a0_1 l0_2 l0_3 l0_4) else (some false))) else (provenanceref2_goodAlts.l0 kj28 l0_4 (l0_4.length : Int) (wrap64 (x21_2 + 1)) a0_0 a0_1 l0_2 l0_3 l0_4))) else (provenanceref2_goodAlts.l0 kj28 l0_4 (l0_4.length : Int) (wrap64 (x21_2 + 1)) a0_0 a0_1 l0_2 l0_3 l0_4)) = some r := by rw [if_neg (show ¬ (false = true) by decide)] at H; exact H
                                clear H
                                have H := H1
                                clear H1
                                by_cases c47 : a0_0 = 13
                                · rw [if_pos c47] at H
                                  have c47b0 : (a0_0 == 13) = true := beq_iff_eq.mpr c47
                                  have c47b1 : (a0_0 != 13) = false := bne_eq_false_iff_eq.mpr c47
                                  clear c47
                                  by_cases c48 : x21_2 = 0
                                  · rw [if_pos c48] at H
                                    have c48b0 : (x21_2 == 0) = true := beq_iff_eq.mpr c48
                                    have c48b1 : (x21_2 != 0) = false := bne_eq_false_iff_eq.mpr c48
                                    clear c48
                                    by_cases c49 : ((rd_T86 l0_4 x21_2).f0) = (-1)
                                    · rw [if_pos c49] at H
                                      have c49b0 : (((rd_T86 l0_4 x21_2).f0) == (-1)) = true := beq_iff_eq.mpr c49
                                      have c49b1 : (((rd_T86 l0_4 x21_2).f0) != (-1)) = false := bne_eq_false_iff_eq.mpr c49
                                      clear c49
                                      by_cases c50 : (((rd_T86 l0_4 x21_2).f1).length : Int) = 1
                                      · rw [if_pos c50] at H
                                        have c50b0 : ((((rd_T86 l0_4 x21_2).f1).length : Int) == 1) = true := beq_iff_eq.mpr c50
                                        have c50b1 : ((((rd_T86 l0_4 x21_2).f1).length : Int) != 1) = false := bne_eq_false_iff_eq.mpr c50
                                        clear c50
                                        by_cases c51 : x21_2 > 0
                                        · rw [if_pos c51] at H
                                          have c51b0 : decide (0 < x21_2) = true := decide_eq_true c51
                                          clear c51
                                          by_cases c52 : ((rd_T86 l0_4 x21_2).f0) < 0
                                          · rw [if_pos c52] at H
                                            have c52b0 : decide (((rd_T86 l0_4 x21_2).f0) < 0) = true := decide_eq_true c52
                                            clear c52
                                            obtain rfl := Option.some.inj H
                                            have hnb53 := NB288_290.out
                                            have hnc53 := NB290_288.out
                                            have hcz54_0 : wc.cell? ⟨gb288, 0, none⟩ = some (.int .i64 a0_0) := (blk_cell BK288.out 0).trans rfl
                                            have hcz54_1 : wc.cell? ⟨gb288, 1, none⟩ = some (.int .i64 a0_1) := (blk_cell BK288.out 1).trans rfl
                                            have hcz54_2 : wc.cell? ⟨gb288, 2, none⟩ = some (.slice A0_2 l0_2.length c0_2) := (blk_cell BK288.out 2).trans rfl
                                            have hcz54_3 : wc.cell? ⟨gb288, 3, none⟩ = some (.slice A0_3 l0_3.length c0_3) := (blk_cell BK288.out 3).trans rfl
                                            have hcz54_4 : wc.cell? ⟨gb288, 4, none⟩ = some (.slice (some ad289) l0_4.length c0_4) := (blk_cell BK288.out 4).trans rfl
                                            have hfz54_0 := blk_frozen BK288.out 0
                                            have hfz54_1 := blk_frozen BK288.out 1
                                            have hfz54_2 := blk_frozen BK288.out 2
                                            have hfz54_3 := blk_frozen BK288.out 3
                                            have hfz54_4 := blk_frozen BK288.out 4
                                            have hcz55_0 : wc.cell? ⟨gb290, 0, none⟩ = some (.int .i64 ((rd_T86 l0_4 x21_2).f0)) := (blk_cell BK290.out 0).trans rfl
                                            have hcz55_1 : wc.cell? ⟨gb290, 1, none⟩ = some (.slice A289_1 ((rd_T86 l0_4 x21_2).f1).length c289_1) := (blk_cell BK290.out 1).trans rfl
                                            have hfz55_0 := blk_frozen BK290.out 0
                                            have hfz55_1 := blk_frozen BK290.out 1
                                            go_wp2
                                            repeat (go_quiet (fail); try go_wp2)
                                            go_ret
                                            exact ⟨by first | rfl | (simp [errW_none, errW_some] <;> rfl) | (simp [*, errW_none, errW_some] <;> rfl), by repeat (first | (with_reducible first | exact HB.out | apply below_alloc | apply pw_below_drewN | apply below_drew1 | refine below_set ?_ GE288.out | refine below_set ?_ GE290.out) | exact HB.out)⟩
                                          · rw [if_neg c52] at H
                                            have c52b0 : decide (((rd_T86 l0_4 x21_2).f0) < 0) = false := decide_eq_false c52
                                            clear c52
                                            by_cases c56 : (((rd_T86 l0_4 x21_2).f1).length : Int) = 2
                                            · rw [if_pos c56] at H
                                              have c56b0 : ((((rd_T86 l0_4 x21_2).f1).length : Int) == 2) = true := beq_iff_eq.mpr c56
                                              have c56b1 : ((((rd_T86 l0_4 x21_2).f1).length : Int) != 2) = false := bne_eq_false_iff_eq.mpr c56
                                              clear c56
                                              have H' := Aside0.mk H
                                              clear H
                                              have hnb57 := NB288_290.out
                                              have hnc57 := NB290_288.out
                                              have hcz58_0 : wc.cell? ⟨gb288, 0, none⟩ = some (.int .i64 a0_0) := (blk_cell BK288.out 0).trans rfl
                                              have hcz58_1 : wc.cell? ⟨gb288, 1, none⟩ = some (.int .i64 a0_1) := (blk_cell BK288.out 1).trans rfl
                                              have hcz58_2 : wc.cell? ⟨gb288, 2, none⟩ = some (.slice A0_2 l0_2.length c0_2) := (blk_cell BK288.out 2).trans rfl
                                              have hcz58_3 : wc.cell? ⟨gb288, 3, none⟩ = some (.slice A0_3 l0_3.length c0_3) := (blk_cell BK288.out 3).trans rfl
                                              have hcz58_4 : wc.cell? ⟨gb288, 4, none⟩ = some (.slice (some ad289) l0_4.length c0_4) := (blk_cell BK288.out 4).trans rfl
                                              have hfz58_0 := blk_frozen BK288.out 0
                                              have hfz58_1 := blk_frozen BK288.out 1
                                              have hfz58_2 := blk_frozen BK288.out 2
                                              have hfz58_3 := blk_frozen BK288.out 3
                                              have hfz58_4 := blk_frozen BK288.out 4
                                              have hcz59_0 : wc.cell? ⟨gb290, 0, none⟩ = some (.int .i64 ((rd_T86 l0_4 x21_2).f0)) := (blk_cell BK290.out 0).trans rfl
                                              have hcz59_1 : wc.cell? ⟨gb290, 1, none⟩ = some (.slice A289_1 ((rd_T86 l0_4 x21_2).f1).length c289_1) := (blk_cell BK290.out 1).trans rfl
                                              have hfz59_0 := blk_frozen BK290.out 0
                                              have hfz59_1 := blk_frozen BK290.out 1
                                              go_wp2
                                              repeat (go_quiet (fail); try go_wp2)
                                              go_roundg kj28
                                              case measure => have := HJ1.out; have := HK2.out; have := HK3.out; have := HJ28.out; omega
                                              case rel => exact ⟨(wrap64 (x21_2 + 1)), (by first | rfl | (simp; done) | (simp [*]; done)), H', ⟨by have := HJ1.out; have := HK2.out; have := HK3.out; have := HJ28.out; omega⟩, ⟨by (with_reducible repeat (first | refine blk_drewN ?_ _ | refine blk_drew ?_ | refine blk_alloc ?_ _)); exact BK288.out⟩, ⟨by repeat (first | (with_reducible first | exact HB.out | apply below_alloc | apply pw_below_drewN | apply below_drew1 | refine below_set ?_ GE288.out | refine below_set ?_ GE290.out) | exact HB.out)⟩⟩
                                            · rw [if_neg c56] at H
                                              have c56b0 : ((((rd_T86 l0_4 x21_2).f1).length : Int) == 2) = false := beq_eq_false_iff_ne.mpr c56
                                              have c56b1 : ((((rd_T86 l0_4 x21_2).f1).length : Int) != 2) = true := bne_iff_ne.mpr c56
                                              obtain rfl := Option.some.inj H
                                              have hnb60 := NB288_290.out
                                              have hnc60 := NB290_288.out
                                              have hcz61_0 : wc.cell? ⟨gb288, 0, none⟩ = some (.int .i64 a0_0) := (blk_cell BK288.out 0).trans rfl
                                              have hcz61_1 : wc.cell? ⟨gb288, 1, none⟩ = some (.int .i64 a0_1) := (blk_cell BK288.out 1).trans rfl
                                              have hcz61_2 : wc.cell? ⟨gb288, 2, none⟩ = some (.slice A0_2 l0_2.length c0_2) := (blk_cell BK288.out 2).trans rfl
                                              have hcz61_3 : wc.cell? ⟨gb288, 3, none⟩ = some (.slice A0_3 l0_3.length c0_3) := (blk_cell BK288.out 3).trans rfl
                                              have hcz61_4 : wc.cell? ⟨gb288, 4, none⟩ = some (.slice (some ad289) l0_4.length c0_4) := (blk_cell BK288.out 4).trans rfl
                                              have hfz61_0 := blk_frozen BK288.out 0
                                              have hfz61_1 := blk_frozen BK288.out 1
                                              have hfz61_2 := blk_frozen BK288.out 2
                                              have hfz61_3 := blk_frozen BK288.out 3
                                              have hfz61_4 := blk_frozen BK288.out 4
                                              have hcz62_0 : wc.cell? ⟨gb290, 0, none⟩ = some (.int .i64 ((rd_T86 l0_4 x21_2).f0)) := (blk_cell BK290.out 0).trans rfl
                                              have hcz62_1 : wc.cell? ⟨gb290, 1, none⟩ = some (.slice A289_1 ((rd_T86 l0_4 x21_2).f1).length c289_1) := (blk_cell BK290.out 1).trans rfl
                                              have hfz62_0 := blk_frozen BK290.out 0
                                              have hfz62_1 := blk_frozen BK290.out 1
                                              go_wp2
                                              repeat (go_quiet (fail); try go_wp2)
                                              go_ret
                                              exact ⟨by first | rfl | (simp [errW_none, errW_some] <;> rfl) | (simp [*, errW_none, errW_some] <;> rfl), by repeat (first | (with_reducible first | exact HB.out | apply below_alloc | apply pw_below_drewN | apply below_drew1 | refine below_set ?_ GE288.out | refine below_set ?_ GE290.out) | exact HB.out)⟩
                                        · rw [if_neg c51] at H
                                          have c51b0 : decide (0 < x21_2) = false := decide_eq_false c51
                                          clear c51
                                          have H' := Aside0.mk H
                                          clear H
                                          have hnb63 := NB288_290.out
                                          have hnc63 := NB290_288.out
                                          have hcz64_0 : wc.cell? ⟨gb288, 0, none⟩ = some (.int .i64 a0_0) := (blk_cell BK288.out 0).trans rfl
                                          have hcz64_1 : wc.cell? ⟨gb288, 1, none⟩ = some (.int .i64 a0_1) := (blk_cell BK288.out 1).trans rfl
                                          have hcz64_2 : wc.cell? ⟨gb288, 2, none⟩ = some (.slice A0_2 l0_2.length c0_2) := (blk_cell BK288.out 2).trans rfl
                                          have hcz64_3 : wc.cell? ⟨gb288, 3, none⟩ = some (.slice A0_3 l0_3.length c0_3) := (blk_cell BK288.out 3).trans rfl
                                          have hcz64_4 : wc.cell? ⟨gb288, 4, none⟩ = some (.slice (some ad289) l0_4.length c0_4) := (blk_cell BK288.out 4).trans rfl
                                          have hfz64_0 := blk_frozen BK288.out 0
                                          have hfz64_1 := blk_frozen BK288.out 1
                                          have hfz64_2 := blk_frozen BK288.out 2
                                          have hfz64_3 := blk_frozen BK288.out 3
                                          have hfz64_4 := blk_frozen BK288.out 4
                                          have hcz65_0 : wc.cell? ⟨gb290, 0, none⟩ = some (.int .i64 ((rd_T86 l0_4 x21_2).f0)) := (blk_cell BK290.out 0).trans rfl
                                          have hcz65_1 : wc.cell? ⟨gb290, 1, none⟩ = some (.slice A289_1 ((rd_T86 l0_4 x21_2).f1).length c289_1) := (blk_cell BK290.out 1).trans rfl
                                          have hfz65_0 := blk_frozen BK290.out 0
                                          have hfz65_1 := blk_frozen BK290.out 1
                                          go_wp2
                                          repeat (go_quiet (fail); try go_wp2)
                                          go_roundg kj28
                                          case measure => have := HJ1.out; have := HK2.out; have := HK3.out; have := HJ28.out; omega
                                          case rel => exact ⟨(wrap64 (x21_2 + 1)), (by first | rfl | (simp; done) | (simp [*]; done)), H', ⟨by have := HJ1.out; have := HK2.out; have := HK3.out; have := HJ28.out; omega⟩, ⟨by (with_reducible repeat (first | refine blk_drewN ?_ _ | refine blk_drew ?_ | refine blk_alloc ?_ _)); exact BK288.out⟩, ⟨by repeat (first | (with_reducible first | exact HB.out | apply below_alloc | apply pw_below_drewN | apply below_drew1 | refine below_set ?_ GE288.out | refine below_set ?_ GE290.out) | exact HB.out)⟩⟩
                                      · rw [if_neg c50] at H
                                        have c50b0 : ((((rd_T86 l0_4 x21_2).f1).length : Int) == 1) = false := beq_eq_false_iff_ne.mpr c50
                                        have c50b1 : ((((rd_T86 l0_4 x21_2).f1).length : Int) != 1) = true := bne_iff_ne.mpr c50
                                        obtain rfl := Option.some.inj H
                                        have hnb66 := NB288_290.out
                                        have hnc66 := NB290_288.out
                                        have hcz67_0 : wc.cell? ⟨gb288, 0, none⟩ = some (.int .i64 a0_0) := (blk_cell BK288.out 0).trans rfl
                                        have hcz67_1 : wc.cell? ⟨gb288, 1, none⟩ = some (.int .i64 a0_1) := (blk_cell BK288.out 1).trans rfl
                                        have hcz67_2 : wc.cell? ⟨gb288, 2, none⟩ = some (.slice A0_2 l0_2.length c0_2) := (blk_cell BK288.out 2).trans rfl
                                        have hcz67_3 : wc.cell? ⟨gb288, 3, none⟩ = some (.slice A0_3 l0_3.length c0_3) := (blk_cell BK288.out 3).trans rfl
                                        have hcz67_4 : wc.cell? ⟨gb288, 4, none⟩ = some (.slice (some ad289) l0_4.length c0_4) := (blk_cell BK288.out 4).trans rfl
                                        have hfz67_0 := blk_frozen BK288.out 0
                                        have hfz67_1 := blk_frozen BK288.out 1
                                        have hfz67_2 := blk_frozen BK288.out 2
                                        have hfz67_3 := blk_frozen BK288.out 3
                                        have hfz67_4 := blk_frozen BK288.out 4
                                        have hcz68_0 : wc.cell? ⟨gb290, 0, none⟩ = some (.int .i64 ((rd_T86 l0_4 x21_2).f0)) := (blk_cell BK290.out 0).trans rfl
                                        have hcz68_1 : wc.cell? ⟨gb290, 1, none⟩ = some (.slice A289_1 ((rd_T86 l0_4 x21_2).f1).length c289_1) := (blk_cell BK290.out 1).trans rfl
                                        have hfz68_0 := blk_frozen BK290.out 0
                                        have hfz68_1 := blk_frozen BK290.out 1
                                        go_wp2
                                        repeat (go_quiet (fail); try go_wp2)
                                        go_ret
                                        exact ⟨by first | rfl | (simp [errW_none, errW_some] <;> rfl) | (simp [*, errW_none, errW_some] <;> rfl), by repeat (first | (with_reducible first | exact HB.out | apply below_alloc | apply pw_below_drewN | apply below_drew1 | refine below_set ?_ GE288.out | refine below_set ?_ GE290.out) | exact HB.out)⟩
                                    · rw [if_neg c49] at H
                                      have c49b0 : (((rd_T86 l0_4 x21_2).f0) == (-1)) = false := beq_eq_false_iff_ne.mpr c49
                                      have c49b1 : (((rd_T86 l0_4 x21_2).f0) != (-1)) = true := bne_iff_ne.mpr c49
                                      obtain rfl := Option.some.inj H
                                      have hnb69 := NB288_290.out
                                      have hnc69 := NB290_288.out
                                      have hcz70_0 : wc.cell? ⟨gb288, 0, none⟩ = some (.int .i64 a0_0) := (blk_cell BK288.out 0).trans rfl
                                      have hcz70_1 : wc.cell? ⟨gb288, 1, none⟩ = some (.int .i64 a0_1) := (blk_cell BK288.out 1).trans rfl
                                      have hcz70_2 : wc.cell? ⟨gb288, 2, none⟩ = some (.slice A0_2 l0_2.length c0_2) := (blk_cell BK288.out 2).trans rfl
                                      have hcz70_3 : wc.cell? ⟨gb288, 3, none⟩ = some (.slice A0_3 l0_3.length c0_3) := (blk_cell BK288.out 3).trans rfl
                                      have hcz70_4 : wc.cell? ⟨gb288, 4, none⟩ = some (.slice (some ad289) l0_4.length c0_4) := (blk_cell BK288.out 4).trans rfl
                                      have hfz70_0 := blk_frozen BK288.out 0
                                      have hfz70_1 := blk_frozen BK288.out 1
                                      have hfz70_2 := blk_frozen BK288.out 2
                                      have hfz70_3 := blk_frozen BK288.out 3
                                      have hfz70_4 := blk_frozen BK288.out 4
                                      have hcz71_0 : wc.cell? ⟨gb290, 0, none⟩ = some (.int .i64 ((rd_T86 l0_4 x21_2).f0)) := (blk_cell BK290.out 0).trans rfl
                                      have hcz71_1 : wc.cell? ⟨gb290, 1, none⟩ = some (.slice A289_1 ((rd_T86 l0_4 x21_2).f1).length c289_1) := (blk_cell BK290.out 1).trans rfl
                                      have hfz71_0 := blk_frozen BK290.out 0
                                      have hfz71_1 := blk_frozen BK290.out 1
                                      go_wp2
                                      repeat (go_quiet (fail); try go_wp2)
                                      go_ret
                                      exact ⟨by first | rfl | (simp [errW_none, errW_some] <;> rfl) | (simp [*, errW_none, errW_some] <;> rfl), by repeat (first | (with_reducible first | exact HB.out | apply below_alloc | apply pw_below_drewN | apply below_drew1 | refine below_set ?_ GE288.out | refine below_set ?_ GE290.out) | exact HB.out)⟩
                                  · rw [if_neg c48] at H
                                    have c48b0 : (x21_2 == 0) = false := beq_eq_false_iff_ne.mpr c48
                                    have c48b1 : (x21_2 != 0) = true := bne_iff_ne.mpr c48
                                    by_cases c72 : x21_2 > 0
                                    · rw [if_pos c72] at H
                                      have c72b0 : decide (0 < x21_2) = true := decide_eq_true c72
                                      clear c72
                                      by_cases c73 : ((rd_T86 l0_4 x21_2).f0) < 0
                                      · rw [if_pos c73] at H
                                        have c73b0 : decide (((rd_T86 l0_4 x21_2).f0) < 0) = true := decide_eq_true c73
                                        clear c73
                                        obtain rfl := Option.some.inj H
                                        have hnb74 := NB288_290.out
                                        have hnc74 := NB290_288.out
                                        have hcz75_0 : wc.cell? ⟨gb288, 0, none⟩ = some (.int .i64 a0_0) := (blk_cell BK288.out 0).trans rfl
                                        have hcz75_1 : wc.cell? ⟨gb288, 1, none⟩ = some (.int .i64 a0_1) := (blk_cell BK288.out 1).trans rfl
                                        have hcz75_2 : wc.cell? ⟨gb288, 2, none⟩ = some (.slice A0_2 l0_2.length c0_2) := (blk_cell BK288.out 2).trans rfl
                                        have hcz75_3 : wc.cell? ⟨gb288, 3, none⟩ = some (.slice A0_3 l0_3.length c0_3) := (blk_cell BK288.out 3).trans rfl
                                        have hcz75_4 : wc.cell? ⟨gb288, 4, none⟩ = some (.slice (some ad289) l0_4.length c0_4) := (blk_cell BK288.out 4).trans rfl
                                        have hfz75_0 := blk_frozen BK288.out 0
                                        have hfz75_1 := blk_frozen BK288.out 1
                                        have hfz75_2 := blk_frozen BK288.out 2
                                        have hfz75_3 := blk_frozen BK288.out 3
                                        have hfz75_4 := blk_frozen BK288.out 4
                                        have hcz76_0 : wc.cell? ⟨gb290, 0, none⟩ = some (.int .i64 ((rd_T86 l0_4 x21_2).f0)) := (blk_cell BK290.out 0).trans rfl
                                        have hcz76_1 : wc.cell? ⟨gb290, 1, none⟩ = some (.slice A289_1 ((rd_T86 l0_4 x21_2).f1).length c289_1) := (blk_cell BK290.out 1).trans rfl
                                        have hfz76_0 := blk_frozen BK290.out 0
                                        have hfz76_1 := blk_frozen BK290.out 1
                                        go_wp2
                                        repeat (go_quiet (fail); try go_wp2)
                                        go_ret
                                        exact ⟨by first | rfl | (simp [errW_none, errW_some] <;> rfl) | (simp [*, errW_none, errW_some] <;> rfl), by repeat (first | (with_reducible first | exact HB.out | apply below_alloc | apply pw_below_drewN | apply below_drew1 | refine below_set ?_ GE288.out | refine below_set ?_ GE290.out) | exact HB.out)⟩
                                      · rw [if_neg c73] at H
                                        have c73b0 : decide (((rd_T86 l0_4 x21_2).f0) < 0) = false := decide_eq_false c73
                                        clear c73
                                        by_cases c77 : (((rd_T86 l0_4 x21_2).f1).length : Int) = 2
                                        · rw [if_pos c77] at H
                                          have c77b0 : ((((rd_T86 l0_4 x21_2).f1).length : Int) == 2) = true := beq_iff_eq.mpr c77
                                          have c77b1 : ((((rd_T86 l0_4 x21_2).f1).length : Int) != 2) = false := bne_eq_false_iff_eq.mpr c77
                                          clear c77
                                          have H' := Aside0.mk H
                                          clear H
                                          have hnb78 := NB288_290.out
                                          have hnc78 := NB290_288.out
                                          have hcz79_0 : wc.cell? ⟨gb288, 0, none⟩ = some (.int .i64 a0_0) := (blk_cell BK288.out 0).trans rfl
                                          have hcz79_1 : wc.cell? ⟨gb288, 1, none⟩ = some (.int .i64 a0_1) := (blk_cell BK288.out 1).trans rfl
                                          have hcz79_2 : wc.cell? ⟨gb288, 2, none⟩ = some (.slice A0_2 l0_2.length c0_2) := (blk_cell BK288.out 2).trans rfl
                                          have hcz79_3 : wc.cell? ⟨gb288, 3, none⟩ = some (.slice A0_3 l0_3.length c0_3) := (blk_cell BK288.out 3).trans rfl
                                          have hcz79_4 : wc.cell? ⟨gb288, 4, none⟩ = some (.slice (some ad289) l0_4.length c0_4) := (blk_cell BK288.out 4).trans rfl
                                          have hfz79_0 := blk_frozen BK288.out 0
                                          have hfz79_1 := blk_frozen BK288.out 1
                                          have hfz79_2 := blk_frozen BK288.out 2
                                          have hfz79_3 := blk_frozen BK288.out 3
                                          have hfz79_4 := blk_frozen BK288.out 4
                                          have hcz80_0 : wc.cell? ⟨gb290, 0, none⟩ = some (.int .i64 ((rd_T86 l0_4 x21_2).f0)) := (blk_cell BK290.out 0).trans rfl
                                          have hcz80_1 : wc.cell? ⟨gb290, 1, none⟩ = some (.slice A289_1 ((rd_T86 l0_4 x21_2).f1).length c289_1) := (blk_cell BK290.out 1).trans rfl
                                          have hfz80_0 := blk_frozen BK290.out 0
                                          have hfz80_1 := blk_frozen BK290.out 1
                                          go_wp2
                                          repeat (go_quiet (fail); try go_wp2)
                                          go_roundg kj28
                                          case measure => have := HJ1.out; have := HK2.out; have := HK3.out; have := HJ28.out; omega
                                          case rel => exact ⟨(wrap64 (x21_2 + 1)), (by first | rfl | (simp; done) | (simp [*]; done)), H', ⟨by have := HJ1.out; have := HK2.out; have := HK3.out; have := HJ28.out; omega⟩, ⟨by (with_reducible repeat (first | refine blk_drewN ?_ _ | refine blk_drew ?_ | refine blk_alloc ?_ _)); exact BK288.out⟩, ⟨by repeat (first | (with_reducible first | exact HB.out | apply below_alloc | apply pw_below_drewN | apply below_drew1 | refine below_set ?_ GE288.out | refine below_set ?_ GE290.out) | exact HB.out)⟩⟩
                                        · rw [if_neg c77] at H
                                          have c77b0 : ((((rd_T86 l0_4 x21_2).f1).length : Int) == 2) = false := beq_eq_false_iff_ne.mpr c77
                                          have c77b1 : ((((rd_T86 l0_4 x21_2).f1).length : Int) != 2) = true := bne_iff_ne.mpr c77
                                          obtain rfl := Option.some.inj H
                                          have hnb81 := NB288_290.out
                                          have hnc81 := NB290_288.out
                                          have hcz82_0 : wc.cell? ⟨gb288, 0, none⟩ = some (.int .i64 a0_0) := (blk_cell BK288.out 0).trans rfl
                                          have hcz82_1 : wc.cell? ⟨gb288, 1, none⟩ = some (.int .i64 a0_1) := (blk_cell BK288.out 1).trans rfl
                                          have hcz82_2 : wc.cell? ⟨gb288, 2, none⟩ = some (.slice A0_2 l0_2.length c0_2) := (blk_cell BK288.out 2).trans rfl
                                          have hcz82_3 : wc.cell? ⟨gb288, 3, none⟩ = some (.slice A0_3 l0_3.length c0_3) := (blk_cell BK288.out 3).trans rfl
                                          have hcz82_4 : wc.cell? ⟨gb288, 4, none⟩ = some (.slice (some ad289) l0_4.length c0_4) := (blk_cell BK288.out 4).trans rfl
                                          have hfz82_0 := blk_frozen BK288.out 0
                                          have hfz82_1 := blk_frozen BK288.out 1
                                          have hfz82_2 := blk_frozen BK288.out 2
                                          have hfz82_3 := blk_frozen BK288.out 3
                                          have hfz82_4 := blk_frozen BK288.out 4
                                          have hcz83_0 : wc.cell? ⟨gb290, 0, none⟩ = some (.int .i64 ((rd_T86 l0_4 x21_2).f0)) := (blk_cell BK290.out 0).trans rfl
                                          have hcz83_1 : wc.cell? ⟨gb290, 1, none⟩ = some (.slice A289_1 ((rd_T86 l0_4 x21_2).f1).length c289_1) := (blk_cell BK290.out 1).trans rfl
                                          have hfz83_0 := blk_frozen BK290.out 0
                                          have hfz83_1 := blk_frozen BK290.out 1
                                          go_wp2
                                          repeat (go_quiet (fail); try go_wp2)
                                          go_ret
                                          exact ⟨by first | rfl | (simp [errW_none, errW_some] <;> rfl) | (simp [*, errW_none, errW_some] <;> rfl), by repeat (first | (with_reducible first | exact HB.out | apply below_alloc | apply pw_below_drewN | apply below_drew1 | refine below_set ?_ GE288.out | refine below_set ?_ GE290.out) | exact HB.out)⟩
                                    · rw [if_neg c72] at H
                                      have c72b0 : decide (0 < x21_2) = false := decide_eq_false c72
                                      clear c72
                                      have H' := Aside0.mk H
                                      clear H
                                      have hnb84 := NB288_290.out
                                      have hnc84 := NB290_288.out
                                      have hcz85_0 : wc.cell? ⟨gb288, 0, none⟩ = some (.int .i64 a0_0) := (blk_cell BK288.out 0).trans rfl
                                      have hcz85_1 : wc.cell? ⟨gb288, 1, none⟩ = some (.int .i64 a0_1) := (blk_cell BK288.out 1).trans rfl
                                      have hcz85_2 : wc.cell? ⟨gb288, 2, none⟩ = some (.slice A0_2 l0_2.length c0_2) := (blk_cell BK288.out 2).trans rfl
                                      have hcz85_3 : wc.cell? ⟨gb288, 3, none⟩ = some (.slice A0_3 l0_3.length c0_3) := (blk_cell BK288.out 3).trans rfl
                                      have hcz85_4 : wc.cell? ⟨gb288, 4, none⟩ = some (.slice (some ad289) l0_4.length c0_4) := (blk_cell BK288.out 4).trans rfl
                                      have hfz85_0 := blk_frozen BK288.out 0
                                      have hfz85_1 := blk_frozen BK288.out 1
                                      have hfz85_2 := blk_frozen BK288.out 2
                                      have hfz85_3 := blk_frozen BK288.out 3
                                      have hfz85_4 := blk_frozen BK288.out 4
                                      go_wp2
                                      repeat (go_quiet (fail); try go_wp2)
                                      go_roundg kj28
                                      case measure => have := HJ1.out; have := HK2.out; have := HK3.out; have := HJ28.out; omega
                                      case rel => exact ⟨(wrap64 (x21_2 + 1)), (by first | rfl | (simp; done) | (simp [*]; done)), H', ⟨by have := HJ1.out; have := HK2.out; have := HK3.out; have := HJ28.out; omega⟩, ⟨by (with_reducible repeat (first | refine blk_drewN ?_ _ | refine blk_drew ?_ | refine blk_alloc ?_ _)); exact BK288.out⟩, ⟨by repeat (first | (with_reducible first | exact HB.out | apply below_alloc | apply pw_below_drewN | apply below_drew1 | refine below_set ?_ GE288.out | refine below_set ?_ GE290.out) | exact HB.out)⟩⟩
                                · rw [if_neg c47] at H
                                  have c47b0 : (a0_0 == 13) = false := beq_eq_false_iff_ne.mpr c47
                                  have c47b1 : (a0_0 != 13) = true := bne_iff_ne.mpr c47
                                  have H' := Aside0.mk H
                                  clear H
                                  have hnb86 := NB288_290.out
                                  have hnc86 := NB290_288.out
                                  have hcz87_0 : wc.cell? ⟨gb288, 0, none⟩ = some (.int .i64 a0_0) := (blk_cell BK288.out 0).trans rfl
                                  have hcz87_1 : wc.cell? ⟨gb288, 1, none⟩ = some (.int .i64 a0_1) := (blk_cell BK288.out 1).trans rfl
                                  have hcz87_2 : wc.cell? ⟨gb288, 2, none⟩ = some (.slice A0_2 l0_2.length c0_2) := (blk_cell BK288.out 2).trans rfl
                                  have hcz87_3 : wc.cell? ⟨gb288, 3, none⟩ = some (.slice A0_3 l0_3.length c0_3) := (blk_cell BK288.out 3).trans rfl
                                  have hcz87_4 : wc.cell? ⟨gb288, 4, none⟩ = some (.slice (some ad289) l0_4.length c0_4) := (blk_cell BK288.out 4).trans rfl
                                  have hfz87_0 := blk_frozen BK288.out 0
                                  have hfz87_1 := blk_frozen BK288.out 1
                                  have hfz87_2 := blk_frozen BK288.out 2
                                  have hfz87_3 := blk_frozen BK288.out 3
                                  have hfz87_4 := blk_frozen BK288.out 4
                                  go_wp2
                                  repeat (go_quiet (fail); try go_wp2)
                                  go_roundg kj28
                                  case measure => have := HJ1.out; have := HK2.out; have := HK3.out; have := HJ28.out; omega
                                  case rel => exact ⟨(wrap64 (x21_2 + 1)), (by first | rfl | (simp; done) | (simp [*]; done)), H', ⟨by have := HJ1.out; have := HK2.out; have := HK3.out; have := HJ28.out; omega⟩, ⟨by (with_reducible repeat (first | refine blk_drewN ?_ _ | refine blk_drew ?_ | refine blk_alloc ?_ _)); exact BK288.out⟩, ⟨by repeat (first | (with_reducible first | exact HB.out | apply below_alloc | apply pw_below_drewN | apply below_drew1 | refine below_set ?_ GE288.out | refine below_set ?_ GE290.out) | exact HB.out)⟩⟩
                · rw [if_neg c12] at H
                  exact absurd H (by simp)
              · rw [if_neg c11] at H
                exact absurd H (by simp)
            · rw [if_neg c10] at H
              have c10b0 : decide (x21_2 < (l0_4.length : Int)) = false := decide_eq_false c10
              clear c10
              by_cases c88 : a0_0 = 7
              · rw [if_pos c88] at H
                have c88b0 : (a0_0 == 7) = true := beq_iff_eq.mpr c88
                have c88b1 : (a0_0 != 7) = false := bne_eq_false_iff_eq.mpr c88
                clear c88
                obtain rfl := Option.some.inj H
                have hcz89_0 : wr.cell? ⟨gb288, 0, none⟩ = some (.int .i64 a0_0) := (blk_cell BK288.out 0).trans rfl
                have hcz89_1 : wr.cell? ⟨gb288, 1, none⟩ = some (.int .i64 a0_1) := (blk_cell BK288.out 1).trans rfl
                have hcz89_2 : wr.cell? ⟨gb288, 2, none⟩ = some (.slice A0_2 l0_2.length c0_2) := (blk_cell BK288.out 2).trans rfl
                have hcz89_3 : wr.cell? ⟨gb288, 3, none⟩ = some (.slice A0_3 l0_3.length c0_3) := (blk_cell BK288.out 3).trans rfl
                have hcz89_4 : wr.cell? ⟨gb288, 4, none⟩ = some (.slice A0_4 l0_4.length c0_4) := (blk_cell BK288.out 4).trans rfl
                have hfz89_0 := blk_frozen BK288.out 0
                have hfz89_1 := blk_frozen BK288.out 1
                have hfz89_2 := blk_frozen BK288.out 2
                have hfz89_3 := blk_frozen BK288.out 3
                have hfz89_4 := blk_frozen BK288.out 4
                go_wp2
                repeat (go_quiet (fail); try go_wp2)
                go_ret
                exact ⟨by first | rfl | (simp [errW_none, errW_some] <;> rfl) | (simp [*, errW_none, errW_some] <;> rfl), by repeat (first | (with_reducible first | exact HB.out | apply below_alloc | apply pw_below_drewN | apply below_drew1 | refine below_set ?_ GE288.out) | exact HB.out)⟩
              · rw [if_neg c88] at H
                have c88b0 : (a0_0 == 7) = false := beq_eq_false_iff_ne.mpr c88
                have c88b1 : (a0_0 != 7) = true := bne_iff_ne.mpr c88
                obtain rfl := Option.some.inj H
                have hcz90_0 : wr.cell? ⟨gb288, 0, none⟩ = some (.int .i64 a0_0) := (blk_cell BK288.out 0).trans rfl
                have hcz90_1 : wr.cell? ⟨gb288, 1, none⟩ = some (.int .i64 a0_1) := (blk_cell BK288.out 1).trans rfl
                have hcz90_2 : wr.cell? ⟨gb288, 2, none⟩ = some (.slice A0_2 l0_2.length c0_2) := (blk_cell BK288.out 2).trans rfl
                have hcz90_3 : wr.cell? ⟨gb288, 3, none⟩ = some (.slice A0_3 l0_3.length c0_3) := (blk_cell BK288.out 3).trans rfl
                have hcz90_4 : wr.cell? ⟨gb288, 4, none⟩ = some (.slice A0_4 l0_4.length c0_4) := (blk_cell BK288.out 4).trans rfl
                have hfz90_0 := blk_frozen BK288.out 0
                have hfz90_1 := blk_frozen BK288.out 1
                have hfz90_2 := blk_frozen BK288.out 2
                have hfz90_3 := blk_frozen BK288.out 3
                have hfz90_4 := blk_frozen BK288.out 4
                go_wp2
                repeat (go_quiet (fail); try go_wp2)
                go_ret
                exact ⟨by first | rfl | (simp [errW_none, errW_some] <;> rfl) | (simp [*, errW_none, errW_some] <;> rfl), by repeat (first | (with_reducible first | exact HB.out | apply below_alloc | apply pw_below_drewN | apply below_drew1 | refine below_set ?_ GE288.out) | exact HB.out)⟩

end Go.Proofs.YtjhinklijopobaaDoor.PCoreChecks
