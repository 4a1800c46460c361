import Derived.Test.YtjhinklijopobaaDoorGCC1
import Derived.BigQuiet
namespace Go.Proofs.YtjhinklijopobaaDoor.Co
open Go.RowKit Go.Proofs.YtjhinklijopobaaDoor.PCoreChecks Go.Proofs.YtjhinklijopobaaDoorW.PrintWords Go.Proofs.YtjhinklijopobaaDoorW.PrintLast Go.Proofs.YtjhinklijopobaaDoorW.PrintMore
set_option linter.unusedVariables false
set_option linter.unusedSimpArgs false

/-! ### The numbers of a node: the program's check and the document's -/
/-- A node in the heap. -/
structure Node (w : World) (x : S28) (A2 : Option Addr) (c2 : Nat) (A3 : Option Addr) (c3 : Nat) (A4 : Option Addr) (c4 : Nat) : Prop where
  l2 : x.f2.length ≤ c2
  g2 : Kd.C (Kd.int .i64) w A2 x.f2.length x.f2
  l3 : x.f3.length ≤ c3
  g3 : Kd.C (Kd.int .i64) w A3 x.f3.length x.f3
  l4 : x.f4.length ≤ c4
  g4 : Kd.C k86 w A4 x.f4.length x.f4
theorem Node.below {w w' : World} {x : S28} {A2 A3 A4 : Option Addr} {c2 c3 c4 : Nat} (h : Node w x A2 c2 A3 c3 A4 c4) (hb : Below w.heap.size w w') : Node w' x A2 c2 A3 c3 A4 c4 :=
  ⟨h.l2, Kd.C_below h.g2 hb, h.l3, Kd.C_below h.g3 hb, h.l4, Kd.C_below h.g4 hb⟩
/-- The struct value of a node. -/
abbrev nodeV (x : S28) (A2 : Option Addr) (c2 : Nat) (A3 : Option Addr) (c3 : Nat) (A4 : Option Addr) (c4 : Nat) : Value := .agg #[.int .i64 x.f0, .int .i64 x.f1, .slice A2 x.f2.length c2, .slice A3 x.f3.length c3, .slice A4 x.f4.length c4]
/-- A node's box, and what is older. -/
structure Yx (w : World) (x : S28) (A2 : Option Addr) (c2 : Nat) (A3 : Option Addr) (c3 : Nat) (A4 : Option Addr) (c4 : Nat) (W : World) : Prop where
  bx : W.heap[w.heap.size]? = some (.cells #[.int .i64 x.f0, .int .i64 x.f1, .slice A2 x.f2.length c2, .slice A3 x.f3.length c3, .slice A4 x.f4.length c4] 28 (0, 0))
  b : Below w.heap.size w W
theorem Yx.below {w : World} {x : S28} {A2 : Option Addr} {c2 : Nat} {A3 : Option Addr} {c3 : Nat} {A4 : Option Addr} {c4 : Nat} {W W' : World} (h : Yx w x A2 c2 A3 c3 A4 c4 W) (hb : Below W.heap.size W W') : Yx w x A2 c2 A3 c3 A4 c4 W' := ⟨blk_below h.bx hb, h.b.trans (hb.mono h.b.size)⟩
theorem Yx.made (w : World) (x : S28) (A2 A3 A4 : Option Addr) (c2 c3 c4 : Nat) : Yx w x A2 c2 A3 c3 A4 c4 (w.alloc (.cells #[.int .i64 x.f0, .int .i64 x.f1, .slice A2 x.f2.length c2, .slice A3 x.f3.length c3, .slice A4 x.f4.length c4] 28)) := ⟨blk_new _ _, below_alloc (Below.refl _ _) _⟩
theorem Yx.cells {w W : World} {x : S28} {A2 A3 A4 : Option Addr} {c2 c3 c4 : Nat} (h : Yx w x A2 c2 A3 c3 A4 c4 W) : W.cell? ⟨w.heap.size, 0, none⟩ = some (.int .i64 x.f0) ∧ W.cell? ⟨w.heap.size, 1, none⟩ = some (.int .i64 x.f1) ∧ W.cell? ⟨w.heap.size, 2, none⟩ = some (.slice A2 x.f2.length c2) ∧ W.cell? ⟨w.heap.size, 3, none⟩ = some (.slice A3 x.f3.length c3) ∧ W.cell? ⟨w.heap.size, 4, none⟩ = some (.slice A4 x.f4.length c4) :=
  ⟨(blk_cell h.bx 0).trans rfl, (blk_cell h.bx 1).trans rfl, (blk_cell h.bx 2).trans rfl, (blk_cell h.bx 3).trans rfl, (blk_cell h.bx 4).trans rfl⟩
theorem ins_calls (n lo hi : Int) (W : World) : Calls Tryd.prog 106 #[.int .i64 n, .int .i64 lo, .int .i64 hi] W fun e W' => e = .returned (.bool (inB n lo hi)) ∧ Below W.heap.size W W' :=
  (provenanceref2_inside.calls n lo hi _ W (inside_f n lo hi)).mono fun e W' h => ⟨h.1, h.2.below⟩
theorem btw_calls (n lo hi : Int) (W : World) : Calls Tryd.prog 120 #[.int .i64 n, .int .i64 lo, .int .i64 hi] W fun e W' => e = .returned (.bool (inB n lo hi)) ∧ Below W.heap.size W W' :=
  (core_between.calls n lo hi _ W (between_f n lo hi)).mono fun e W' h => ⟨h.1, h.2.below⟩
def NuP (x : S28) (w : World) (e : Ending) (w' : World) : Prop := e = .returned (.int .i64 (numErr x)) ∧ Below w.heap.size w w'
theorem NuP.mk {x : S28} {w w' : World} {v : Int} (h : numErr x = v) (hb : Below w.heap.size w w') : NuP x w (.returned (.int .i64 v)) w' := ⟨by rw [h], hb⟩
theorem num_lo {x : S28} (h : inB x.f1 (loB x.f0) (hiB x.f0) = false) : numErr x = 4 := by unfold numErr; rw [h]; rfl
theorem num_bad {x : S28} {i : Nat} (hi : i < x.f2.length) (h0 : inB x.f1 (loB x.f0) (hiB x.f0) = true) (h : idB (x.f2[i]'hi) = false) : numErr x = 4 := by
  unfold numErr
  have : x.f2.all idB = false := by rw [List.all_eq_false]; exact ⟨_, List.getElem_mem hi, by rw [h]; decide⟩
  rw [h0, if_pos rfl, this]; rfl
theorem num_alt {x : S28} {i : Nat} (hi : i < x.f4.length) (h0 : inB x.f1 (loB x.f0) (hiB x.f0) = true) (h1 : x.f2.all idB = true) (h : altR x.f0 (x.f4[i]'hi) = false) : numErr x = 4 := by
  unfold numErr
  have : x.f4.all (altR x.f0) = false := by rw [List.all_eq_false]; exact ⟨_, List.getElem_mem hi, by rw [h]; decide⟩
  rw [h0, if_pos rfl, h1, if_pos rfl, this]; rfl
theorem num_end {x : S28} (h0 : inB x.f1 (loB x.f0) (hiB x.f0) = true) (h1 : x.f2.all idB = true) (h2 : x.f4.all (altR x.f0) = true) : numErr x = if largeB x.f0 x.f2.length x.f3.length (longest x.f4 0) = true then 2 else 0 := by
  unfold numErr; rw [h0, if_pos rfl, h1, if_pos rfl, h2, if_pos rfl]
theorem all_snoc {α : Type} (p : α → Bool) (l : List α) (i : Nat) (h : i < l.length) (h0 : (l.take i).all p = true) (h1 : p (l[i]'h) = true) : (l.take (i + 1)).all p = true := by
  rw [List.take_succ_eq_append_getElem h, List.all_append, h0]; simp [h1]
theorem long_snoc (l : List S86) (i : Nat) (h : i < l.length) (m : Int) : longest (l.take (i + 1)) m = mx (longest (l.take i) m) ((l[i]'h).f1.length : Int) := by
  unfold longest
  rw [List.take_succ_eq_append_getElem h, List.foldl_append]; rfl
theorem long_bound (l : List S86) (B : Int) (hl : ∀ y ∈ l, (y.f1.length : Int) ≤ B) : ∀ m : Int, 0 ≤ m → m ≤ B → 0 ≤ longest l m ∧ longest l m ≤ B := by
  induction l with
  | nil => intro m h0 h1; exact ⟨h0, h1⟩
  | cons a l ih =>
    intro m h0 h1
    have ha := hl a (by simp)
    refine ih (fun y hy => hl y (by simp [hy])) (mx m (a.f1.length : Int)) ?_ ?_ <;> (unfold mx; split <;> omega)
theorem largeC_iff (op nk m : Int) : largeC op nk m = true ↔ (op = 2 ∧ 6 < m) ∨ (op ≠ 2 ∧ 16 < m) ∨ ((op = 6 ∨ op = 15) ∧ 16 < nk) ∨ (op = 3 ∧ 7 < nk) ∨ (op = 14 ∧ 6 < nk) := by
  unfold largeC
  simp only [Bool.or_eq_true, Bool.and_eq_true, decide_eq_true_eq]
  by_cases h : op = 2
  · rw [if_pos h]; omega
  · rw [if_neg h]; omega
theorem largeB_iff (op nb nk m : Int) : largeB op nb nk m = true ↔ (op = 2 ∧ 6 < nb) ∨ (op = 3 ∧ 7 < nk) ∨ (op = 14 ∧ 6 < nk) ∨ ((op = 6 ∨ op = 15) ∧ 16 < nk) ∨ 16 < nb ∨ 16 < m := by
  unfold largeB
  simp only [Bool.or_eq_true, Bool.and_eq_true, decide_eq_true_eq]
  omega
/-- The tag of an alternative is out of its range. -/
def badT (op tg : Int) : Bool := decide (1048576 ≤ tg) || (decide (op = 7) && decide (255 < tg))
theorem altR_eq (op : Int) (a : S86) : altR op a = (!badT op a.f0 && a.f1.all idB) := rfl

set_option maxHeartbeats 8000000 in
set_option maxRecDepth 100000 in
theorem rngC_calls (x : S28) (hx : Small x) (h2 : x.f0 = 2 → x.f4 = []) (A2 A3 A4 : Option Addr) (c2 c3 c4 : Nat) (w : World) (h : Node w x A2 c2 A3 c3 A4 c4) :
    Calls Tryd.prog 102 #[nodeV x A2 c2 A3 c3 A4 c4] w (NuP x w) := by
  have HN := Go.Lib.hid h
  have HS := Go.Lib.hid hx
  have H2 := Go.Lib.hid h2
  have HY0 := Go.Lib.hid (Yx.made w x A2 A3 A4 c2 c3 c4)
  have hb9 : (x.f2.length : Int) ≤ 17592186044416 := by have := hx.b; omega
  have hk9 : (x.f3.length : Int) ≤ 17592186044416 := by have := hx.k; omega
  have ha9 : (x.f4.length : Int) ≤ 17592186044416 := by have := hx.a; omega
  obtain ⟨x0, x1, x2, x3, x4⟩ := HY0.out.cells
  clear h hx h2
  go_enter Tryd.func102, Tryd.ntmps102
  go_upto_block 0 with fail
  go_cut [3, 4] from 15 to 22 (fun s3 s4 wx => s3 = .int .i64 (hiB x.f0) ∧ s4 = .int .i64 (loB x.f0) ∧ Hid (Yx w x A2 c2 A3 c3 A4 c4 wx))
  case first =>
    have hcase : x.f0 = 1 ∨ x.f0 = 6 ∨ x.f0 = 17 ∨ x.f0 = 16 ∨ (x.f0 ≠ 1 ∧ x.f0 ≠ 6 ∧ x.f0 ≠ 17 ∧ x.f0 ≠ 16) := by omega
    have HLO := Go.Lib.hid (show loB x.f0 = if x.f0 = 1 then -1073741824 else if x.f0 = 6 then 0 else if x.f0 = 17 then 1 else if x.f0 = 16 then 0 else 0 from rfl)
    have HHI := Go.Lib.hid (show hiB x.f0 = if x.f0 = 1 then 1073741823 else if x.f0 = 6 then 255 else if x.f0 = 17 then 6 else if x.f0 = 16 then 15 else 1048575 from rfl)
    have H := Go.Lib.hid hcase
    have f1 : (x.f0 == 1) = decide (x.f0 = 1) := by rw [Bool.eq_iff_iff]; simp
    have f6 : (x.f0 == 6) = decide (x.f0 = 6) := by rw [Bool.eq_iff_iff]; simp
    have f17 : (x.f0 == 17) = decide (x.f0 = 17) := by rw [Bool.eq_iff_iff]; simp
    have f16 : (x.f0 == 16) = decide (x.f0 = 16) := by rw [Bool.eq_iff_iff]; simp
    rcases hcase with e | e | e | e | ⟨e1, e2, e3, e4⟩
    · rw [decide_eq_true (p := x.f0 = 1) e] at f1
      rw [if_pos e] at HLO HHI
      clear e f6 f17 f16
      go_wp2_with fail
      go_meet
      exact ⟨by rw [HHI.out], by rw [HLO.out], HY0⟩
    · rw [decide_eq_false (p := x.f0 = 1) (by omega)] at f1
      rw [decide_eq_true (p := x.f0 = 6) e] at f6
      rw [if_neg (by omega), if_pos e] at HLO HHI
      clear e f17 f16
      go_wp2_with fail
      go_meet
      exact ⟨by rw [HHI.out], by rw [HLO.out], HY0⟩
    · rw [decide_eq_false (p := x.f0 = 1) (by omega)] at f1
      rw [decide_eq_false (p := x.f0 = 6) (by omega)] at f6
      rw [decide_eq_true (p := x.f0 = 17) e] at f17
      rw [if_neg (by omega), if_neg (by omega), if_pos e] at HLO HHI
      clear e f16
      go_wp2_with fail
      go_meet
      exact ⟨by rw [HHI.out], by rw [HLO.out], HY0⟩
    · rw [decide_eq_false (p := x.f0 = 1) (by omega)] at f1
      rw [decide_eq_false (p := x.f0 = 6) (by omega)] at f6
      rw [decide_eq_false (p := x.f0 = 17) (by omega)] at f17
      rw [decide_eq_true (p := x.f0 = 16) e] at f16
      rw [if_neg (by omega), if_neg (by omega), if_neg (by omega), if_pos e] at HLO HHI
      clear e
      go_wp2_with fail
      go_meet
      exact ⟨by rw [HHI.out], by rw [HLO.out], HY0⟩
    · rw [decide_eq_false e1] at f1
      rw [decide_eq_false e2] at f6
      rw [decide_eq_false e3] at f17
      rw [decide_eq_false e4] at f16
      rw [if_neg e1, if_neg e2, if_neg e3, if_neg e4] at HLO HHI
      clear e1 e2 e3 e4
      go_wp2_with fail
      go_meet
      exact ⟨by rw [HHI.out], by rw [HLO.out], HY0⟩
  case rest =>
    obtain ⟨rfl, rfl, hy⟩ := hcut
    clear x0 x1 x2 x3 x4 HY0
    obtain ⟨x0, x1, x2, x3, x4⟩ := hy.out.cells
    go_wp2_with fail
    refine (btw_calls _ _ _ _).mono ?_
    rintro e w1 ⟨rfl, hb1⟩
    have HY1 := Go.Lib.hid (hy.out.below hb1)
    clear hb1 hy x0 x1 x2 x3 x4
    obtain ⟨x0, x1, x2, x3, x4⟩ := HY1.out.cells
    cases hin : inB x.f1 (loB x.f0) (hiB x.f0) with
    | false =>
      have HV := Go.Lib.hid (NuP.mk (num_lo hin) HY1.out.b)
      clear hin
      go_wp2_with fail
      go_ret
      exact HV.out
    | true =>
      have HI0 := Go.Lib.hid hin
      clear hin
      go_wp2_with fail
      go_loopg [35] x.f2.length (fun g_ v_ w' => ∃ i : Nat, Hid (i + g_ = x.f2.length) ∧ v_ = .int .i64 i ∧ Hid ((x.f2.take i).all idB = true) ∧ Hid (Yx w x A2 c2 A3 c3 A4 c4 w'))
      case atStart => exact ⟨0, Go.Lib.hid (by omega), rfl, Go.Lib.hid rfl, HY1⟩
      case round =>
        clear HY1 x0 x1 x2 x3 x4
        obtain ⟨i, hi, rfl, hall, hy⟩ := hrel
        obtain ⟨wo, hwo⟩ : ∃ wo : World, wo = wr := ⟨_, rfl⟩
        subst hwo
        obtain ⟨x0, x1, x2, x3, x4⟩ := hy.out.cells
        by_cases hlt : i < x.f2.length
        · have hlt' : (i : Int) < (x.f2.length : Int) := by omega
          have hi0 : (0 : Int) ≤ (i : Int) := by omega
          have HI := Go.Lib.hid hlt
          obtain ⟨ad, e_, p0⟩ := Kd.at_int (Kd.C_below HN.out.g2 hy.out.b) (i : Int) hi0 hlt'
          cases e_
          rw [rd_nat x.f2 i hlt, Int.toNat_natCast] at p0
          have HBAD := Go.Lib.hid (fun h => num_bad (x := x) hlt HI0.out h)
          have HSN := Go.Lib.hid (fun h => all_snoc idB x.f2 i hlt hall.out h)
          generalize x.f2[i]'hlt = z at p0 HBAD HSN
          clear hlt
          go_wp2_with fail
          refine (btw_calls _ _ _ _).mono ?_
          rintro e w3 ⟨rfl, hb3⟩
          have HY3 := Go.Lib.hid (hy.out.below hb3)
          clear hb3 p0 x0 x1 x2 x3 x4
          have hidz : inB z 0 1048575 = idB z := rfl
          rw [hidz]
          clear hidz
          cases hz : idB z with
          | false =>
            have HV := Go.Lib.hid (NuP.mk (HBAD.out hz) HY3.out.b)
            clear hz
            go_wp2_with fail
            go_ret
            exact HV.out
          | true =>
            have HA3 := Go.Lib.hid (HSN.out hz)
            clear hz
            go_wp2_with fail
            go_roundg (gk - 1)
            case measure => have := hi.out; have := HI.out; omega
            case rel => exact ⟨i + 1, Go.Lib.hid (by have := hi.out; have := HI.out; omega), by go_num, HA3, HY3⟩
        · have hd : decide ((i : Int) < (x.f2.length : Int)) = false := decide_eq_false (by omega)
          have hd2 : decide (i < x.f2.length) = false := decide_eq_false hlt
          have HA2 := Go.Lib.hid (show x.f2.all idB = true by have h := hall.out; rw [List.take_of_length_le (by omega)] at h; exact h)
          clear hlt hall hi
          go_wp2_with fail
          go_loopg [5, 46] x.f4.length (fun g_ vf_ v_ w' => ∃ (i : Nat) (m : Int), Hid (i + g_ = x.f4.length) ∧ vf_ = .int .i64 m ∧ v_ = .int .i64 i ∧ Hid (m = longest (x.f4.take i) (x.f2.length : Int)) ∧ Hid ((x.f4.take i).all (altR x.f0) = true) ∧ Hid (Yx w x A2 c2 A3 c3 A4 c4 w'))
          case atStart => exact ⟨0, (x.f2.length : Int), Go.Lib.hid (by omega), rfl, rfl, Go.Lib.hid rfl, Go.Lib.hid rfl, hy⟩
          case round =>
            clear hy x0 x1 x2 x3 x4
            obtain ⟨i, m, hi, rfl, rfl, hm, hall, hy⟩ := hrel
            obtain ⟨wo, hwo⟩ : ∃ wo : World, wo = wr := ⟨_, rfl⟩
            subst hwo
            obtain ⟨ga, hga⟩ : ∃ ga : Nat, ga = gk := ⟨_, rfl⟩
            subst hga
            by_cases hlt : i < x.f4.length
            · have hlt' : (i : Int) < (x.f4.length : Int) := by omega
              have hi0 : (0 : Int) ≤ (i : Int) := by omega
              have HI := Go.Lib.hid hlt
              obtain ⟨ad, A1, c1, e_, p0, p1, q1, q2⟩ := at_T86 HN.out.g4 (i : Int) hi0 hlt'
              cases e_
              rw [rdA_nat x.f4 i hlt] at p0 p1 q1 q2
              rw [Int.toNat_natCast] at p0 p1
              replace p0 := pw_cell_below hy.out.b p0
              replace p1 := pw_cell_below hy.out.b p1
              have HBAD := Go.Lib.hid (fun h => num_alt (x := x) hlt HI0.out HA2.out h)
              have HSN := Go.Lib.hid (fun h => all_snoc (altR x.f0) x.f4 i hlt hall.out h)
              have HLS := Go.Lib.hid (long_snoc x.f4 i hlt (x.f2.length : Int))
              have HSM := Go.Lib.hid (HS.out.ab _ (List.getElem_mem hlt))
              generalize x.f4[i]'hlt = a at p0 p1 q1 q2 HBAD HSN HLS HSM
              have HYA := Go.Lib.hid (hy.out.below (below_alloc (Below.refl _ _) (.cells #[.int .i64 a.f0, .slice A1 a.f1.length c1] 86)))
              have HXA := Go.Lib.hid (show (wo.alloc (.cells #[.int .i64 a.f0, .slice A1 a.f1.length c1] 86)).heap[wo.heap.size]? = some (.cells #[.int .i64 a.f0, .slice A1 a.f1.length c1] 86 (0, 0)) from blk_new _ _)
              have ha1 : (a.f1.length : Int) ≤ 17592186044416 := by have := HSM.out; omega
              obtain ⟨wa, hwa⟩ : ∃ wa, wa = wo.alloc (.cells #[.int .i64 a.f0, .slice A1 a.f1.length c1] 86) := ⟨_, rfl⟩
              rw [← hwa] at HYA HXA
              have HQ2 := Go.Lib.hid (Kd.C_below q2 HYA.out.b)
              have HWA := Go.Lib.hid hwa
              clear hlt q1 q2 hwa hy
              go_upto_region 24 with fail
              rw [← HWA.out]
              clear p0 p1
              obtain ⟨x0, x1, x2, x3, x4⟩ := HYA.out.cells
              have y0 : wa.cell? ⟨wo.heap.size, 0, none⟩ = some (.int .i64 a.f0) := (blk_cell HXA.out 0).trans rfl
              have y1 : wa.cell? ⟨wo.heap.size, 1, none⟩ = some (.slice A1 a.f1.length c1) := (blk_cell HXA.out 1).trans rfl
              go_cut [62] from 50 to 62 (fun sx wx => sx = .bool (badT x.f0 a.f0) ∧ wa = wx)
              case first =>
                have HBT := Go.Lib.hid (show badT x.f0 a.f0 = (decide (1048576 ≤ a.f0) || (decide (x.f0 = 7) && decide (255 < a.f0))) from rfl)
                have f7 : (x.f0 == 7) = decide (x.f0 = 7) := by rw [Bool.eq_iff_iff]; simp
                by_cases h7 : x.f0 = 7
                · rw [decide_eq_true h7] at f7 HBT
                  clear h7
                  by_cases hA : 1048576 ≤ a.f0
                  · have d1 : decide (1048576 ≤ a.f0) = true := decide_eq_true hA
                    have d3 : decide (255 < a.f0) = true := decide_eq_true (by omega)
                    rw [d1, Bool.true_or] at HBT
                    clear hA
                    go_wp2_with fail
                    go_meet
                    exact ⟨by rw [HBT.out], rfl⟩
                  · have d1 : decide (1048576 ≤ a.f0) = false := decide_eq_false hA
                    rw [d1, Bool.false_or, Bool.true_and] at HBT
                    by_cases hB : 255 < a.f0
                    · have d3 : decide (255 < a.f0) = true := decide_eq_true hB
                      rw [d3] at HBT
                      clear hA hB
                      go_wp2_with fail
                      go_meet
                      exact ⟨by rw [HBT.out], rfl⟩
                    · have d3 : decide (255 < a.f0) = false := decide_eq_false hB
                      rw [d3] at HBT
                      clear hA hB
                      go_wp2_with fail
                      go_meet
                      exact ⟨by rw [HBT.out], rfl⟩
                · rw [decide_eq_false h7] at f7 HBT
                  rw [Bool.false_and, Bool.or_false] at HBT
                  clear h7
                  by_cases hA : 1048576 ≤ a.f0
                  · have d1 : decide (1048576 ≤ a.f0) = true := decide_eq_true hA
                    have d3 : decide (255 < a.f0) = true := decide_eq_true (by omega)
                    rw [d1] at HBT
                    clear hA
                    go_wp2_with fail
                    go_meet
                    exact ⟨by rw [HBT.out], rfl⟩
                  · have d1 : decide (1048576 ≤ a.f0) = false := decide_eq_false hA
                    rw [d1] at HBT
                    clear hA
                    by_cases hB : 255 < a.f0
                    · have d3 : decide (255 < a.f0) = true := decide_eq_true hB
                      clear hB
                      go_wp2_with fail
                      go_meet
                      exact ⟨by rw [HBT.out], rfl⟩
                    · have d3 : decide (255 < a.f0) = false := decide_eq_false hB
                      clear hB
                      go_wp2_with fail
                      go_meet
                      exact ⟨by rw [HBT.out], rfl⟩
              case rest =>
                obtain ⟨rfl, rfl⟩ := hcut
                cases hbt : badT x.f0 a.f0 with
                | true =>
                  have HV := Go.Lib.hid (NuP.mk (HBAD.out (by rw [altR_eq, hbt]; rfl)) HYA.out.b)
                  clear hbt
                  go_wp2_with fail
                  go_ret
                  exact HV.out
                | false =>
                  have HBT := Go.Lib.hid hbt
                  clear hbt
                  go_wp2_with fail
                  clear x0 x1 x2 x3 x4 y0 y1
                  go_loopg [66] a.f1.length (fun g_ v_ w' => ∃ j : Nat, Hid (j + g_ = a.f1.length) ∧ v_ = .int .i64 j ∧ Hid ((a.f1.take j).all idB = true) ∧ Hid (Below wa.heap.size wa w'))
                  case atStart => exact ⟨0, Go.Lib.hid (by omega), rfl, Go.Lib.hid rfl, Go.Lib.hid (Below.refl _ _)⟩
                  case round =>
                    obtain ⟨j, hj, rfl, hal, hb⟩ := hrel
                    obtain ⟨wi, hwi⟩ : ∃ wi : World, wi = wr := ⟨_, rfl⟩
                    subst hwi
                    by_cases hlt : j < a.f1.length
                    · have hltj : (j : Int) < (a.f1.length : Int) := by omega
                      have hj0 : (0 : Int) ≤ (j : Int) := by omega
                      have HJ := Go.Lib.hid hlt
                      obtain ⟨ad5, e_, p0⟩ := Kd.at_int (Kd.C_below HQ2.out hb.out) (j : Int) hj0 hltj
                      cases e_
                      rw [rd_nat a.f1 j hlt, Int.toNat_natCast] at p0
                      have HSJ := Go.Lib.hid (fun h => all_snoc idB a.f1 j hlt hal.out h)
                      have HMJ := Go.Lib.hid (show idB (a.f1[j]'hlt) = false → a.f1.all idB = false from fun h => by rw [List.all_eq_false]; exact ⟨_, List.getElem_mem hlt, by rw [h]; decide⟩)
                      generalize a.f1[j]'hlt = z at p0 HSJ HMJ
                      clear hlt
                      go_wp2_with fail
                      refine (btw_calls _ _ _ _).mono ?_
                      rintro e w3 ⟨rfl, hb3⟩
                      have HB3 := Go.Lib.hid (below_step hb.out hb3)
                      clear hb3 p0 hb
                      have hidz : inB z 0 1048575 = idB z := rfl
                      rw [hidz]
                      clear hidz
                      cases hz : idB z with
                      | false =>
                        have HV := Go.Lib.hid (NuP.mk (HBAD.out (by rw [altR_eq, HMJ.out hz, Bool.and_false])) (HYA.out.below HB3.out).b)
                        clear hz
                        go_wp2_with fail
                        go_ret
                        exact HV.out
                      | true =>
                        have HA3 := Go.Lib.hid (HSJ.out hz)
                        clear hz
                        go_wp2_with fail
                        go_roundg (gk - 1)
                        case measure => have := hj.out; have := HJ.out; omega
                        case rel => exact ⟨j + 1, Go.Lib.hid (by have := hj.out; have := HJ.out; omega), by go_num, HA3, HB3⟩
                    · have hd : decide ((j : Int) < (a.f1.length : Int)) = false := decide_eq_false (by omega)
                      have hd2 : decide (j < a.f1.length) = false := decide_eq_false hlt
                      have HAR := Go.Lib.hid (HSN.out (by have h := hal.out; rw [List.take_of_length_le (by omega)] at h; rw [altR_eq, HBT.out, h]; rfl))
                      have HYB := Go.Lib.hid (HYA.out.below hb.out)
                      have hxb := blk_below HXA.out hb.out
                      have y1 : wi.cell? ⟨wo.heap.size, 1, none⟩ = some (.slice A1 a.f1.length c1) := (blk_cell hxb 1).trans rfl
                      have HMX := Go.Lib.hid (show (if m < (a.f1.length : Int) then (a.f1.length : Int) else m) = longest (x.f4.take (i + 1)) (x.f2.length : Int) by rw [HLS.out, ← hm.out]; rfl)
                      clear hlt hal hj hxb hb
                      by_cases hmx : m < (a.f1.length : Int)
                      · have hdm : decide (m < (a.f1.length : Int)) = true := decide_eq_true hmx
                        rw [if_pos hmx] at HMX
                        go_wp2_with fail
                        all_goals first
                          | (exfalso; omega)
                          | (go_roundg (ga - 1)
                             case measure => have := hi.out; have := HI.out; omega
                             case rel => exact ⟨i + 1, a.f1.length, Go.Lib.hid (by have := hi.out; have := HI.out; omega), (by first | rfl | (rw [if_pos hmx])), by go_num, HMX, HAR, HYB⟩)
                      · have hdm : decide (m < (a.f1.length : Int)) = false := decide_eq_false hmx
                        rw [if_neg hmx] at HMX
                        go_wp2_with fail
                        all_goals first
                          | (exfalso; omega)
                          | (go_roundg (ga - 1)
                             case measure => have := hi.out; have := HI.out; omega
                             case rel => exact ⟨i + 1, m, Go.Lib.hid (by have := hi.out; have := HI.out; omega), (by first | rfl | (rw [if_neg hmx])), by go_num, HMX, HAR, HYB⟩)
            · have hd : decide ((i : Int) < (x.f4.length : Int)) = false := decide_eq_false (by omega)
              have hd2 : decide (i < x.f4.length) = false := decide_eq_false hlt
              have HA4 := Go.Lib.hid (show x.f4.all (altR x.f0) = true by have h := hall.out; rw [List.take_of_length_le (by omega)] at h; exact h)
              have HM := Go.Lib.hid (show m = longest x.f4 (x.f2.length : Int) by have h := hm.out; rw [List.take_of_length_le (by omega)] at h; exact h)
              have HE := Go.Lib.hid (num_end HI0.out HA2.out HA4.out)
              obtain ⟨x0, x1, x2, x3, x4⟩ := hy.out.cells
              clear hlt hall hi hm
              have HLC := Go.Lib.hid (large_same x.f0 x.f2 x.f3 x.f4 H2.out)
              rw [← HM.out] at HLC
              have HEL := Go.Lib.hid (show numErr x = if largeC x.f0 x.f3.length m = true then 2 else 0 by rw [HE.out, HLC.out])
              by_cases h2 : x.f0 = 2
              · have e2 : (x.f0 == 2) = true := beq_iff_eq.2 h2
                have H22 := Go.Lib.hid h2
                clear h2
                go_wp2_with fail
                all_goals
                  go_ret
                  refine NuP.mk ?_ hy.out.b
                  have := H22.out
                  rw [HEL.out]
                  first
                    | (exfalso; omega)
                    | rw [if_pos ((largeC_iff _ _ _).2 (by omega))]
                    | rw [if_neg (fun h => by have := (largeC_iff _ _ _).1 h; omega)]
              · have e2 : (x.f0 == 2) = false := beq_eq_false_iff_ne.2 h2
                have H22 := Go.Lib.hid h2
                clear h2
                go_wp2_with fail
                all_goals
                  go_ret
                  refine NuP.mk ?_ hy.out.b
                  have := H22.out
                  rw [HEL.out]
                  first
                    | (exfalso; omega)
                    | rw [if_pos ((largeC_iff _ _ _).2 (by omega))]
                    | rw [if_neg (fun h => by have := (largeC_iff _ _ _).1 h; omega)]

set_option maxHeartbeats 8000000 in
set_option maxRecDepth 100000 in
theorem numR_calls (x : S28) (hx : Small x) (A2 A3 A4 : Option Addr) (c2 c3 c4 : Nat) (w : World) (h : Node w x A2 c2 A3 c3 A4 c4) :
    Calls Tryd.prog 77 #[nodeV x A2 c2 A3 c3 A4 c4] w (NuP x w) := by
  have HN := Go.Lib.hid h
  have HS := Go.Lib.hid hx
  have HY0 := Go.Lib.hid (Yx.made w x A2 A3 A4 c2 c3 c4)
  have hb9 : (x.f2.length : Int) ≤ 17592186044416 := by have := hx.b; omega
  have hk9 : (x.f3.length : Int) ≤ 17592186044416 := by have := hx.k; omega
  have ha9 : (x.f4.length : Int) ≤ 17592186044416 := by have := hx.a; omega
  obtain ⟨x0, x1, x2, x3, x4⟩ := HY0.out.cells
  clear h hx 
  go_enter Tryd.func77, Tryd.ntmps77
  go_upto_block 0 with fail
  go_cut [3, 4] from 14 to 21 (fun s3 s4 wx => s3 = .int .i64 (loB x.f0) ∧ s4 = .int .i64 (hiB x.f0) ∧ Hid (Yx w x A2 c2 A3 c3 A4 c4 wx))
  case first =>
    have hcase : x.f0 = 1 ∨ x.f0 = 6 ∨ x.f0 = 17 ∨ x.f0 = 16 ∨ (x.f0 ≠ 1 ∧ x.f0 ≠ 6 ∧ x.f0 ≠ 17 ∧ x.f0 ≠ 16) := by omega
    have HLO := Go.Lib.hid (show loB x.f0 = if x.f0 = 1 then -1073741824 else if x.f0 = 6 then 0 else if x.f0 = 17 then 1 else if x.f0 = 16 then 0 else 0 from rfl)
    have HHI := Go.Lib.hid (show hiB x.f0 = if x.f0 = 1 then 1073741823 else if x.f0 = 6 then 255 else if x.f0 = 17 then 6 else if x.f0 = 16 then 15 else 1048575 from rfl)
    have H := Go.Lib.hid hcase
    have f1 : (x.f0 == 1) = decide (x.f0 = 1) := by rw [Bool.eq_iff_iff]; simp
    have f6 : (x.f0 == 6) = decide (x.f0 = 6) := by rw [Bool.eq_iff_iff]; simp
    have f17 : (x.f0 == 17) = decide (x.f0 = 17) := by rw [Bool.eq_iff_iff]; simp
    have f16 : (x.f0 == 16) = decide (x.f0 = 16) := by rw [Bool.eq_iff_iff]; simp
    rcases hcase with e | e | e | e | ⟨e1, e2, e3, e4⟩
    · rw [decide_eq_true (p := x.f0 = 1) e] at f1
      rw [if_pos e] at HLO HHI
      clear e f6 f17 f16
      go_wp2_with fail
      go_meet
      exact ⟨by rw [HLO.out], by rw [HHI.out], HY0⟩
    · rw [decide_eq_false (p := x.f0 = 1) (by omega)] at f1
      rw [decide_eq_true (p := x.f0 = 6) e] at f6
      rw [if_neg (by omega), if_pos e] at HLO HHI
      clear e f17 f16
      go_wp2_with fail
      go_meet
      exact ⟨by rw [HLO.out], by rw [HHI.out], HY0⟩
    · rw [decide_eq_false (p := x.f0 = 1) (by omega)] at f1
      rw [decide_eq_false (p := x.f0 = 6) (by omega)] at f6
      rw [decide_eq_true (p := x.f0 = 17) e] at f17
      rw [if_neg (by omega), if_neg (by omega), if_pos e] at HLO HHI
      clear e f16
      go_wp2_with fail
      go_meet
      exact ⟨by rw [HLO.out], by rw [HHI.out], HY0⟩
    · rw [decide_eq_false (p := x.f0 = 1) (by omega)] at f1
      rw [decide_eq_false (p := x.f0 = 6) (by omega)] at f6
      rw [decide_eq_false (p := x.f0 = 17) (by omega)] at f17
      rw [decide_eq_true (p := x.f0 = 16) e] at f16
      rw [if_neg (by omega), if_neg (by omega), if_neg (by omega), if_pos e] at HLO HHI
      clear e
      go_wp2_with fail
      go_meet
      exact ⟨by rw [HLO.out], by rw [HHI.out], HY0⟩
    · rw [decide_eq_false e1] at f1
      rw [decide_eq_false e2] at f6
      rw [decide_eq_false e3] at f17
      rw [decide_eq_false e4] at f16
      rw [if_neg e1, if_neg e2, if_neg e3, if_neg e4] at HLO HHI
      clear e1 e2 e3 e4
      go_wp2_with fail
      go_meet
      exact ⟨by rw [HLO.out], by rw [HHI.out], HY0⟩
  case rest =>
    obtain ⟨rfl, rfl, hy⟩ := hcut
    clear x0 x1 x2 x3 x4 HY0
    obtain ⟨x0, x1, x2, x3, x4⟩ := hy.out.cells
    go_wp2_with fail
    refine (ins_calls _ _ _ _).mono ?_
    rintro e w1 ⟨rfl, hb1⟩
    have HY1 := Go.Lib.hid (hy.out.below hb1)
    clear hb1 hy x0 x1 x2 x3 x4
    obtain ⟨x0, x1, x2, x3, x4⟩ := HY1.out.cells
    cases hin : inB x.f1 (loB x.f0) (hiB x.f0) with
    | false =>
      have HV := Go.Lib.hid (NuP.mk (num_lo hin) HY1.out.b)
      clear hin
      go_wp2_with fail
      go_ret
      exact HV.out
    | true =>
      have HI0 := Go.Lib.hid hin
      clear hin
      go_wp2_with fail
      go_loopg [31] x.f2.length (fun g_ v_ w' => ∃ i : Nat, Hid (i + g_ = x.f2.length) ∧ v_ = .int .i64 i ∧ Hid ((x.f2.take i).all idB = true) ∧ Hid (Yx w x A2 c2 A3 c3 A4 c4 w'))
      case atStart => exact ⟨0, Go.Lib.hid (by omega), rfl, Go.Lib.hid rfl, HY1⟩
      case round =>
        clear HY1 x0 x1 x2 x3 x4
        obtain ⟨i, hi, rfl, hall, hy⟩ := hrel
        obtain ⟨wo, hwo⟩ : ∃ wo : World, wo = wr := ⟨_, rfl⟩
        subst hwo
        obtain ⟨x0, x1, x2, x3, x4⟩ := hy.out.cells
        by_cases hlt : i < x.f2.length
        · have hlt' : (i : Int) < (x.f2.length : Int) := by omega
          have hi0 : (0 : Int) ≤ (i : Int) := by omega
          have HI := Go.Lib.hid hlt
          obtain ⟨ad, e_, p0⟩ := Kd.at_int (Kd.C_below HN.out.g2 hy.out.b) (i : Int) hi0 hlt'
          cases e_
          rw [rd_nat x.f2 i hlt, Int.toNat_natCast] at p0
          have HBAD := Go.Lib.hid (fun h => num_bad (x := x) hlt HI0.out h)
          have HSN := Go.Lib.hid (fun h => all_snoc idB x.f2 i hlt hall.out h)
          generalize x.f2[i]'hlt = z at p0 HBAD HSN
          clear hlt
          go_wp2_with fail
          refine (ins_calls _ _ _ _).mono ?_
          rintro e w3 ⟨rfl, hb3⟩
          have HY3 := Go.Lib.hid (hy.out.below hb3)
          clear hb3 p0 x0 x1 x2 x3 x4
          have hidz : inB z 0 1048575 = idB z := rfl
          rw [hidz]
          clear hidz
          cases hz : idB z with
          | false =>
            have HV := Go.Lib.hid (NuP.mk (HBAD.out hz) HY3.out.b)
            clear hz
            go_wp2_with fail
            go_ret
            exact HV.out
          | true =>
            have HA3 := Go.Lib.hid (HSN.out hz)
            clear hz
            go_wp2_with fail
            go_roundg (gk - 1)
            case measure => have := hi.out; have := HI.out; omega
            case rel => exact ⟨i + 1, Go.Lib.hid (by have := hi.out; have := HI.out; omega), by go_num, HA3, HY3⟩
        · have hd : decide ((i : Int) < (x.f2.length : Int)) = false := decide_eq_false (by omega)
          have hd2 : decide (i < x.f2.length) = false := decide_eq_false hlt
          have HA2 := Go.Lib.hid (show x.f2.all idB = true by have h := hall.out; rw [List.take_of_length_le (by omega)] at h; exact h)
          clear hlt hall hi
          go_wp2_with fail
          go_loopg [7, 42] x.f4.length (fun g_ vf_ v_ w' => ∃ (i : Nat) (m : Int), Hid (i + g_ = x.f4.length) ∧ vf_ = .int .i64 m ∧ v_ = .int .i64 i ∧ Hid (m = longest (x.f4.take i) 0) ∧ Hid ((x.f4.take i).all (altR x.f0) = true) ∧ Hid (Yx w x A2 c2 A3 c3 A4 c4 w'))
          case atStart => exact ⟨0, 0, Go.Lib.hid (by omega), rfl, rfl, Go.Lib.hid rfl, Go.Lib.hid rfl, hy⟩
          case round =>
            clear hy x0 x1 x2 x3 x4
            obtain ⟨i, m, hi, rfl, rfl, hm, hall, hy⟩ := hrel
            obtain ⟨wo, hwo⟩ : ∃ wo : World, wo = wr := ⟨_, rfl⟩
            subst hwo
            obtain ⟨ga, hga⟩ : ∃ ga : Nat, ga = gk := ⟨_, rfl⟩
            subst hga
            by_cases hlt : i < x.f4.length
            · have hlt' : (i : Int) < (x.f4.length : Int) := by omega
              have hi0 : (0 : Int) ≤ (i : Int) := by omega
              have HI := Go.Lib.hid hlt
              obtain ⟨ad, A1, c1, e_, p0, p1, q1, q2⟩ := at_T86 HN.out.g4 (i : Int) hi0 hlt'
              cases e_
              rw [rdA_nat x.f4 i hlt] at p0 p1 q1 q2
              rw [Int.toNat_natCast] at p0 p1
              replace p0 := pw_cell_below hy.out.b p0
              replace p1 := pw_cell_below hy.out.b p1
              have HBAD := Go.Lib.hid (fun h => num_alt (x := x) hlt HI0.out HA2.out h)
              have HSN := Go.Lib.hid (fun h => all_snoc (altR x.f0) x.f4 i hlt hall.out h)
              have HLS := Go.Lib.hid (long_snoc x.f4 i hlt 0)
              have HSM := Go.Lib.hid (HS.out.ab _ (List.getElem_mem hlt))
              generalize x.f4[i]'hlt = a at p0 p1 q1 q2 HBAD HSN HLS HSM
              have HYA := Go.Lib.hid (hy.out.below (below_alloc (Below.refl _ _) (.cells #[.int .i64 a.f0, .slice A1 a.f1.length c1] 86)))
              have HXA := Go.Lib.hid (show (wo.alloc (.cells #[.int .i64 a.f0, .slice A1 a.f1.length c1] 86)).heap[wo.heap.size]? = some (.cells #[.int .i64 a.f0, .slice A1 a.f1.length c1] 86 (0, 0)) from blk_new _ _)
              have ha1 : (a.f1.length : Int) ≤ 17592186044416 := by have := HSM.out; omega
              obtain ⟨wa, hwa⟩ : ∃ wa, wa = wo.alloc (.cells #[.int .i64 a.f0, .slice A1 a.f1.length c1] 86) := ⟨_, rfl⟩
              rw [← hwa] at HYA HXA
              have HQ2 := Go.Lib.hid (Kd.C_below q2 HYA.out.b)
              have HWA := Go.Lib.hid hwa
              clear hlt q1 q2 hwa hy
              go_upto_region 23 with fail
              rw [← HWA.out]
              clear p0 p1
              obtain ⟨x0, x1, x2, x3, x4⟩ := HYA.out.cells
              have y0 : wa.cell? ⟨wo.heap.size, 0, none⟩ = some (.int .i64 a.f0) := (blk_cell HXA.out 0).trans rfl
              have y1 : wa.cell? ⟨wo.heap.size, 1, none⟩ = some (.slice A1 a.f1.length c1) := (blk_cell HXA.out 1).trans rfl
              go_cut [58] from 46 to 58 (fun sx wx => sx = .bool (badT x.f0 a.f0) ∧ wa = wx)
              case first =>
                have HBT := Go.Lib.hid (show badT x.f0 a.f0 = (decide (1048576 ≤ a.f0) || (decide (x.f0 = 7) && decide (255 < a.f0))) from rfl)
                have f7 : (x.f0 == 7) = decide (x.f0 = 7) := by rw [Bool.eq_iff_iff]; simp
                by_cases h7 : x.f0 = 7
                · rw [decide_eq_true h7] at f7 HBT
                  clear h7
                  by_cases hA : 1048576 ≤ a.f0
                  · have d1 : decide (1048576 ≤ a.f0) = true := decide_eq_true hA
                    have d3 : decide (255 < a.f0) = true := decide_eq_true (by omega)
                    rw [d1, Bool.true_or] at HBT
                    clear hA
                    go_wp2_with fail
                    go_meet
                    exact ⟨by rw [HBT.out], rfl⟩
                  · have d1 : decide (1048576 ≤ a.f0) = false := decide_eq_false hA
                    rw [d1, Bool.false_or, Bool.true_and] at HBT
                    by_cases hB : 255 < a.f0
                    · have d3 : decide (255 < a.f0) = true := decide_eq_true hB
                      rw [d3] at HBT
                      clear hA hB
                      go_wp2_with fail
                      go_meet
                      exact ⟨by rw [HBT.out], rfl⟩
                    · have d3 : decide (255 < a.f0) = false := decide_eq_false hB
                      rw [d3] at HBT
                      clear hA hB
                      go_wp2_with fail
                      go_meet
                      exact ⟨by rw [HBT.out], rfl⟩
                · rw [decide_eq_false h7] at f7 HBT
                  rw [Bool.false_and, Bool.or_false] at HBT
                  clear h7
                  by_cases hA : 1048576 ≤ a.f0
                  · have d1 : decide (1048576 ≤ a.f0) = true := decide_eq_true hA
                    have d3 : decide (255 < a.f0) = true := decide_eq_true (by omega)
                    rw [d1] at HBT
                    clear hA
                    go_wp2_with fail
                    go_meet
                    exact ⟨by rw [HBT.out], rfl⟩
                  · have d1 : decide (1048576 ≤ a.f0) = false := decide_eq_false hA
                    rw [d1] at HBT
                    clear hA
                    by_cases hB : 255 < a.f0
                    · have d3 : decide (255 < a.f0) = true := decide_eq_true hB
                      clear hB
                      go_wp2_with fail
                      go_meet
                      exact ⟨by rw [HBT.out], rfl⟩
                    · have d3 : decide (255 < a.f0) = false := decide_eq_false hB
                      clear hB
                      go_wp2_with fail
                      go_meet
                      exact ⟨by rw [HBT.out], rfl⟩
              case rest =>
                obtain ⟨rfl, rfl⟩ := hcut
                cases hbt : badT x.f0 a.f0 with
                | true =>
                  have HV := Go.Lib.hid (NuP.mk (HBAD.out (by rw [altR_eq, hbt]; rfl)) HYA.out.b)
                  clear hbt
                  go_wp2_with fail
                  go_ret
                  exact HV.out
                | false =>
                  have HBT := Go.Lib.hid hbt
                  clear hbt
                  go_wp2_with fail
                  clear x0 x1 x2 x3 x4 y0 y1
                  go_loopg [62] a.f1.length (fun g_ v_ w' => ∃ j : Nat, Hid (j + g_ = a.f1.length) ∧ v_ = .int .i64 j ∧ Hid ((a.f1.take j).all idB = true) ∧ Hid (Below wa.heap.size wa w'))
                  case atStart => exact ⟨0, Go.Lib.hid (by omega), rfl, Go.Lib.hid rfl, Go.Lib.hid (Below.refl _ _)⟩
                  case round =>
                    obtain ⟨j, hj, rfl, hal, hb⟩ := hrel
                    obtain ⟨wi, hwi⟩ : ∃ wi : World, wi = wr := ⟨_, rfl⟩
                    subst hwi
                    by_cases hlt : j < a.f1.length
                    · have hltj : (j : Int) < (a.f1.length : Int) := by omega
                      have hj0 : (0 : Int) ≤ (j : Int) := by omega
                      have HJ := Go.Lib.hid hlt
                      obtain ⟨ad5, e_, p0⟩ := Kd.at_int (Kd.C_below HQ2.out hb.out) (j : Int) hj0 hltj
                      cases e_
                      rw [rd_nat a.f1 j hlt, Int.toNat_natCast] at p0
                      have HSJ := Go.Lib.hid (fun h => all_snoc idB a.f1 j hlt hal.out h)
                      have HMJ := Go.Lib.hid (show idB (a.f1[j]'hlt) = false → a.f1.all idB = false from fun h => by rw [List.all_eq_false]; exact ⟨_, List.getElem_mem hlt, by rw [h]; decide⟩)
                      generalize a.f1[j]'hlt = z at p0 HSJ HMJ
                      clear hlt
                      go_wp2_with fail
                      refine (ins_calls _ _ _ _).mono ?_
                      rintro e w3 ⟨rfl, hb3⟩
                      have HB3 := Go.Lib.hid (below_step hb.out hb3)
                      clear hb3 p0 hb
                      have hidz : inB z 0 1048575 = idB z := rfl
                      rw [hidz]
                      clear hidz
                      cases hz : idB z with
                      | false =>
                        have HV := Go.Lib.hid (NuP.mk (HBAD.out (by rw [altR_eq, HMJ.out hz, Bool.and_false])) (HYA.out.below HB3.out).b)
                        clear hz
                        go_wp2_with fail
                        go_ret
                        exact HV.out
                      | true =>
                        have HA3 := Go.Lib.hid (HSJ.out hz)
                        clear hz
                        go_wp2_with fail
                        go_roundg (gk - 1)
                        case measure => have := hj.out; have := HJ.out; omega
                        case rel => exact ⟨j + 1, Go.Lib.hid (by have := hj.out; have := HJ.out; omega), by go_num, HA3, HB3⟩
                    · have hd : decide ((j : Int) < (a.f1.length : Int)) = false := decide_eq_false (by omega)
                      have hd2 : decide (j < a.f1.length) = false := decide_eq_false hlt
                      have HAR := Go.Lib.hid (HSN.out (by have h := hal.out; rw [List.take_of_length_le (by omega)] at h; rw [altR_eq, HBT.out, h]; rfl))
                      have HYB := Go.Lib.hid (HYA.out.below hb.out)
                      have hxb := blk_below HXA.out hb.out
                      have y1 : wi.cell? ⟨wo.heap.size, 1, none⟩ = some (.slice A1 a.f1.length c1) := (blk_cell hxb 1).trans rfl
                      have HMX := Go.Lib.hid (show (if m < (a.f1.length : Int) then (a.f1.length : Int) else m) = longest (x.f4.take (i + 1)) 0 by rw [HLS.out, ← hm.out]; rfl)
                      clear hlt hal hj hxb hb
                      by_cases hmx : m < (a.f1.length : Int)
                      · have hdm : decide (m < (a.f1.length : Int)) = true := decide_eq_true hmx
                        rw [if_pos hmx] at HMX
                        go_wp2_with fail
                        all_goals first
                          | (exfalso; omega)
                          | (go_roundg (ga - 1)
                             case measure => have := hi.out; have := HI.out; omega
                             case rel => exact ⟨i + 1, a.f1.length, Go.Lib.hid (by have := hi.out; have := HI.out; omega), (by first | rfl | (rw [if_pos hmx])), by go_num, HMX, HAR, HYB⟩)
                      · have hdm : decide (m < (a.f1.length : Int)) = false := decide_eq_false hmx
                        rw [if_neg hmx] at HMX
                        go_wp2_with fail
                        all_goals first
                          | (exfalso; omega)
                          | (go_roundg (ga - 1)
                             case measure => have := hi.out; have := HI.out; omega
                             case rel => exact ⟨i + 1, m, Go.Lib.hid (by have := hi.out; have := HI.out; omega), (by first | rfl | (rw [if_neg hmx])), by go_num, HMX, HAR, HYB⟩)
            · have hd : decide ((i : Int) < (x.f4.length : Int)) = false := decide_eq_false (by omega)
              have hd2 : decide (i < x.f4.length) = false := decide_eq_false hlt
              have HA4 := Go.Lib.hid (show x.f4.all (altR x.f0) = true by have h := hall.out; rw [List.take_of_length_le (by omega)] at h; exact h)
              have HM := Go.Lib.hid (show m = longest x.f4 0 by have h := hm.out; rw [List.take_of_length_le (by omega)] at h; exact h)
              have HE := Go.Lib.hid (num_end HI0.out HA2.out HA4.out)
              obtain ⟨x0, x1, x2, x3, x4⟩ := hy.out.cells
              clear hlt hall hi hm
              rw [← HM.out] at HE
              go_wp2_with fail
              all_goals
                go_ret
                refine NuP.mk ?_ hy.out.b
                rw [HE.out]
                first
                  | rw [if_pos ((largeB_iff _ _ _ _).2 (by omega))]
                  | rw [if_neg (fun h => by have := (largeB_iff _ _ _ _).1 h; omega)]

end Go.Proofs.YtjhinklijopobaaDoor.Co
namespace Go.Proofs.YtjhinklijopobaaDoor.Co
open Go.RowKit Go.Proofs.YtjhinklijopobaaDoor.PCoreChecks Go.Proofs.YtjhinklijopobaaDoorW.PrintWords Go.Proofs.YtjhinklijopobaaDoorW.PrintLast Go.Proofs.YtjhinklijopobaaDoorW.PrintMore
set_option linter.unusedVariables false
set_option linter.unusedSimpArgs false

/-! ### goodKids answers kidsB -/
theorem kids_bad {t : List S28} {x : S28} {i : Nat} (hi : i < x.f2.length) (h : kidB t x i = false) : kidsB t x = false := by
  unfold kidsB; rw [List.all_eq_false]; exact ⟨i, List.mem_range.2 hi, by rw [h]; decide⟩
theorem kids_snoc {t : List S28} {x : S28} {i : Nat} (hi : i < x.f2.length) (h : ((List.range x.f2.length).take i).all (kidB t x) = true) (h2 : kidB t x i = true) : ((List.range x.f2.length).take (i + 1)).all (kidB t x) = true :=
  all_snoc (kidB t x) (List.range x.f2.length) i (by rw [List.length_range]; exact hi) h (by rw [List.getElem_range]; exact h2)
/-- What the check of the kids answers, and the world behind it. -/
def KiP (t : List S28) (x : S28) (w : World) : Ending → World → Prop := fun e w' => e = .returned (.bool (kidsB t x)) ∧ Below w.heap.size w w'
theorem KiP.mk {t : List S28} {x : S28} {w w' : World} {b : Bool} (h : kidsB t x = b) (hb : Below w.heap.size w w') : KiP t x w (.returned (.bool b)) w' := ⟨by rw [h], hb⟩
set_option maxHeartbeats 8000000 in
set_option maxRecDepth 100000 in
theorem kidsR_calls (t : List S28) (x : S28) (hx : Small x) (h5 : x.f0 = 5 → ∀ i : Nat, i < x.f2.length → (i < x.f3.length ∧ 0 ≤ rd x.f3 i ∧ rd x.f3 i < (t.length : Int))) (A0 A2 A3 A4 : Option Addr) (c0 c2 c3 c4 : Nat) (w : World) (hr : Kd.C k28 w A0 t.length t) (hc : t.length ≤ c0) (h : Node w x A2 c2 A3 c3 A4 c4) :
    Calls Tryd.prog 78 #[.slice A0 t.length c0, nodeV x A2 c2 A3 c3 A4 c4] w (KiP t x w) := by
  have HN := Go.Lib.hid h
  have HR := Go.Lib.hid hr
  have HS := Go.Lib.hid hx
  have H5 := Go.Lib.hid h5
  have HY0 := Go.Lib.hid (Yx.made w x A2 A3 A4 c2 c3 c4)
  have hb9 : (x.f2.length : Int) ≤ 17592186044416 := by have := hx.b; omega
  obtain ⟨x0, x1, x2, x3, x4⟩ := HY0.out.cells
  clear h hx h5 hr hc
  go_enter Tryd.func78, Tryd.ntmps78
  go_wp2_with fail
  go_loopg [9] x.f2.length (fun g_ v_ w' => ∃ i : Nat, Hid (i + g_ = x.f2.length) ∧ v_ = .int .i64 i ∧ Hid (((List.range x.f2.length).take i).all (kidB t x) = true) ∧ Hid (Yx w x A2 c2 A3 c3 A4 c4 w'))
  case atStart => exact ⟨0, Go.Lib.hid (by omega), rfl, Go.Lib.hid rfl, HY0⟩
  case round =>
    clear HY0 x0 x1 x2 x3 x4
    obtain ⟨i, hi, rfl, hall, hy⟩ := hrel
    obtain ⟨wo, hwo⟩ : ∃ wo : World, wo = wr := ⟨_, rfl⟩
    subst hwo
    obtain ⟨x0, x1, x2, x3, x4⟩ := hy.out.cells
    have z0 := blk_frozen hy.out.bx 0
    have z1 := blk_frozen hy.out.bx 1
    have z2 := blk_frozen hy.out.bx 2
    have z3 := blk_frozen hy.out.bx 3
    have z4 := blk_frozen hy.out.bx 4
    obtain ⟨n, hn⟩ : ∃ n : Int, n = (i : Int) := ⟨_, rfl⟩
    rw [← hn]
    have HNI := Go.Lib.hid hn
    by_cases hlt : n < (x.f2.length : Int)
    · have hlti : i < x.f2.length := by omega
      have hi0 : 0 ≤ n := by omega
      have HI := Go.Lib.hid hlti
      have HBAD := Go.Lib.hid (fun h => kids_bad (t := t) hlti h)
      have HSN := Go.Lib.hid (fun h => kids_snoc (t := t) hlti hall.out h)
      have HK := Go.Lib.hid (show kidB t x i = !((decide (x.f0 = 5) && decide ((rd_T28 t (rd x.f3 n)).f0 ≠ 2)) || (decide (x.f0 = 9) && (decide (0 < n) && decide (rd x.f2 n ≤ rd x.f2 (n - 1))))) by
        have h0 : decide (0 < n) = decide (0 < i) := decide_eq_decide.2 (by omega)
        rw [h0, hn]; rfl)
      have dlt : decide (n < (x.f2.length : Int)) = true := decide_eq_true hlt
      have di0 : decide (0 ≤ n) = true := decide_eq_true hi0
      by_cases h5 : x.f0 = 5
      · have e5 : (x.f0 == 5) = true := beq_iff_eq.2 h5
        have n5 : (x.f0 != 5) = false := by rw [bne, e5]; rfl
        have e9 : (x.f0 == 9) = false := beq_eq_false_iff_ne.2 (by omega)
        have n9 : (x.f0 != 9) = true := by rw [bne, e9]; rfl
        obtain ⟨q1, q2, q3⟩ := H5.out h5 i hlti
        rw [← hn] at q2 q3
        have q1' : n < (x.f3.length : Int) := by omega
        obtain ⟨ad, e_, p0⟩ := Kd.at_int (Kd.C_below HN.out.g3 hy.out.b) n hi0 q1'
        cases e_
        obtain ⟨ad2, B2, d2, B3, d3, B4, d4, e_, u0, u1, u2, u3, u4, -, -, -, -, -, -⟩ := at_T28 (Kd.C_below HR.out hy.out.b) (rd x.f3 n) q2 q3
        cases e_
        rw [decide_eq_true h5, decide_eq_false (p := x.f0 = 9) (by omega), Bool.true_and, Bool.false_and, Bool.or_false] at HK
        generalize rd x.f3 n = z at p0 u0 u1 u2 u3 u4 q2 q3 HK
        generalize (rd_T28 t z).f0 = zo at u0 HK
        have dq2 : decide (0 ≤ z) = true := decide_eq_true q2
        have dq3 : decide (z < (t.length : Int)) = true := decide_eq_true q3
        have dq1 : decide (n < (x.f3.length : Int)) = true := decide_eq_true q1'
        replace q2 := eq_true q2
        replace q3 := eq_true q3
        replace q1' := eq_true q1'
        replace hi0 := eq_true hi0
        clear hlt hlti hn h5 q1 u1 u2 u3 u4
        by_cases hz : zo = 2
        · have ez : (zo == 2) = true := beq_iff_eq.2 hz
          have nz : (zo != 2) = false := by rw [bne, ez]; rfl
          have HA3 := Go.Lib.hid (HSN.out (by rw [HK.out]; simp [hz]))
          clear hz
          go_wp2_with fail
          go_quiet (fail)
          go_wp2_with fail
          go_roundg (gk - 1)
          case measure => have := hi.out; have := HI.out; omega
          case rel => exact ⟨i + 1, Go.Lib.hid (by have := hi.out; have := HI.out; omega), (by have := HI.out; rw [HNI.out]; first | exact congrArg _ ((i64_w _).trans (up_nat i (by omega))) | exact congrArg _ (up_nat i (by omega))), HA3, Go.Lib.hid (hy.out.below (pw_below_drewN (Below.refl _ _) _))⟩
        · have ez : (zo == 2) = false := beq_eq_false_iff_ne.2 hz
          have nz : (zo != 2) = true := by rw [bne, ez]; rfl
          have HV := Go.Lib.hid (HBAD.out (by rw [HK.out]; simp [hz]))
          clear hz
          go_wp2_with fail
          go_quiet (fail)
          go_wp2_with fail
          go_ret
          exact KiP.mk HV.out (hy.out.below (pw_below_drewN (Below.refl _ _) _)).b
      · have e5 : (x.f0 == 5) = false := beq_eq_false_iff_ne.2 h5
        have n5 : (x.f0 != 5) = true := by rw [bne, e5]; rfl
        rw [decide_eq_false h5, Bool.false_and, Bool.false_or] at HK
        by_cases h9 : x.f0 = 9
        · have e9 : (x.f0 == 9) = true := beq_iff_eq.2 h9
          have n9 : (x.f0 != 9) = false := by rw [bne, e9]; rfl
          rw [decide_eq_true h9, Bool.true_and] at HK
          by_cases h0 : 0 < n
          · have h0n : decide (0 < n) = true := decide_eq_true h0
            have ew0 : IntKind.i64.wrap (n - 1) = n - 1 := (i64_w _).trans (wrap_small (by omega) (by omega))
            have q0 : 0 ≤ n - 1 := by omega
            have q1 : n - 1 < (x.f2.length : Int) := by omega
            obtain ⟨ad, e_, p0⟩ := Kd.at_int (Kd.C_below HN.out.g2 hy.out.b) n hi0 hlt
            cases e_
            obtain ⟨ad2, e_, p1⟩ := Kd.at_int (Kd.C_below HN.out.g2 hy.out.b) (n - 1) q0 q1
            cases e_
            rw [decide_eq_true h0, Bool.true_and] at HK
            obtain ⟨j, hj⟩ : ∃ j : Int, j = n - 1 := ⟨_, rfl⟩
            rw [← hj] at p1 q0 q1 HK
            have ew : IntKind.i64.wrap (n - 1) = j := ew0.trans hj.symm
            generalize rd x.f2 n = za at p0 HK
            generalize rd x.f2 j = zb at p1 HK
            have dq0 : decide (0 ≤ j) = true := decide_eq_true q0
            have dq1 : decide (j < (x.f2.length : Int)) = true := decide_eq_true q1
            replace q0 := eq_true q0
            replace q1 := eq_true q1
            replace hi0 := eq_true hi0
            replace hlt := eq_true hlt
            clear hlti h5 h9 h0 hn hj ew0
            by_cases hz : za ≤ zb
            · have dz : decide (za ≤ zb) = true := decide_eq_true hz
              have HV := Go.Lib.hid (HBAD.out (by rw [HK.out, dz]; rfl))
              clear hz
              go_wp2_with fail
              go_quiet (fail)
              go_wp2_with fail
              go_ret
              exact KiP.mk HV.out (hy.out.below (pw_below_drewN (Below.refl _ _) _)).b
            · have dz : decide (za ≤ zb) = false := decide_eq_false hz
              have HA3 := Go.Lib.hid (HSN.out (by rw [HK.out, dz]; rfl))
              clear hz
              go_wp2_with fail
              go_quiet (fail)
              go_wp2_with fail
              go_roundg (gk - 1)
              case measure => have := hi.out; have := HI.out; omega
              case rel => exact ⟨i + 1, Go.Lib.hid (by have := hi.out; have := HI.out; omega), (by have := HI.out; rw [HNI.out]; first | exact congrArg _ ((i64_w _).trans (up_nat i (by omega))) | exact congrArg _ (up_nat i (by omega))), HA3, Go.Lib.hid (hy.out.below (pw_below_drewN (Below.refl _ _) _))⟩
          · have h0n : decide (0 < n) = false := decide_eq_false h0
            have HA3 := Go.Lib.hid (HSN.out (by rw [HK.out, decide_eq_false h0]; rfl))
            clear hlt hlti h5 h9 h0 hn hi0
            go_wp2_with fail
            go_quiet (fail)
            go_wp2_with fail
            go_roundg (gk - 1)
            case measure => have := hi.out; have := HI.out; omega
            case rel => exact ⟨i + 1, Go.Lib.hid (by have := hi.out; have := HI.out; omega), (by have := HI.out; rw [HNI.out]; first | exact congrArg _ ((i64_w _).trans (up_nat i (by omega))) | exact congrArg _ (up_nat i (by omega))), HA3, Go.Lib.hid (hy.out.below (pw_below_drewN (Below.refl _ _) _))⟩
        · have e9 : (x.f0 == 9) = false := beq_eq_false_iff_ne.2 h9
          have n9 : (x.f0 != 9) = true := by rw [bne, e9]; rfl
          have HA3 := Go.Lib.hid (HSN.out (by rw [HK.out, decide_eq_false h9]; rfl))
          clear hlt hlti h5 h9 hn hi0
          go_wp2_with fail
          go_quiet (fail)
          go_wp2_with fail
          go_roundg (gk - 1)
          case measure => have := hi.out; have := HI.out; omega
          case rel => exact ⟨i + 1, Go.Lib.hid (by have := hi.out; have := HI.out; omega), (by have := HI.out; rw [HNI.out]; first | exact congrArg _ ((i64_w _).trans (up_nat i (by omega))) | exact congrArg _ (up_nat i (by omega))), HA3, Go.Lib.hid (hy.out.below (pw_below_drewN (Below.refl _ _) _))⟩
    · have hd : decide (n < (x.f2.length : Int)) = false := decide_eq_false hlt
      have HV := Go.Lib.hid (KiP.mk (t := t) (x := x) (b := true) (by have h := hall.out; rw [List.take_of_length_le (by rw [List.length_range]; omega)] at h; exact h) hy.out.b)
      clear hlt hall hi hn
      go_wp2_with fail
      go_ret
      exact HV.out
end Go.Proofs.YtjhinklijopobaaDoor.Co
namespace Go.Proofs.YtjhinklijopobaaDoor.Co
open Go.RowKit Go.Proofs.YtjhinklijopobaaDoor.PCoreChecks Go.Proofs.YtjhinklijopobaaDoorW.PrintWords Go.Proofs.YtjhinklijopobaaDoorW.PrintLast Go.Proofs.YtjhinklijopobaaDoorW.PrintMore
attribute [local go_sem] max2_int max_two
set_option linter.unusedVariables false
set_option linter.unusedSimpArgs false

/-! ### kidsOf answers kidsN -/
def KoP (x : S28) (w : World) (e : Ending) (w' : World) : Prop := e = .returned (.tuple #[.int .i64 (kidsN x.f0 x.f1 x.f2.length x.f3.length x.f4.length).1, .bool (kidsN x.f0 x.f1 x.f2.length x.f3.length x.f4.length).2]) ∧ Below w.heap.size w w'
theorem KoP.mk {x : S28} {w w' : World} {k : Int} {b : Bool} (h : kidsN x.f0 x.f1 x.f2.length x.f3.length x.f4.length = (k, b)) (hb : Below w.heap.size w w') : KoP x w (.returned (.tuple #[.int .i64 k, .bool b])) w' := ⟨by rw [h], hb⟩

set_option maxHeartbeats 8000000 in
set_option maxRecDepth 100000 in
theorem kidsOf_calls (x : S28) (hs : Small x) (A2 A3 A4 : Option Addr) (c2 c3 c4 : Nat) (w : World) : Calls Tryd.prog 104 #[nodeV x A2 c2 A3 c3 A4 c4] w (KoP x w) := by
  obtain ⟨op, n, bs, ks, al⟩ := x
  have hb9 : (bs.length : Int) ≤ 17592186044416 := by have := hs.b; simp only at this; omega
  have hk9 : (ks.length : Int) ≤ 17592186044416 := by have := hs.k; simp only at this; omega
  have ha9 : (al.length : Int) ≤ 17592186044416 := by have := hs.a; simp only at this; omega
  clear hs
  go_enter Tryd.func104, Tryd.ntmps104
  go_wp2_with fail
  all_goals go_ret2
  all_goals refine KoP.mk ?_ (by first | exact below_alloc (Below.refl _ _) _ | exact pw_below_drewN (below_alloc (Below.refl _ _) _) _)
  all_goals simp only
  all_goals first | (simp_all [kidsN, mx]; done) | (simp_all [kidsN, mx]; omega) | skip

/-! ### goodForm answers formB -/
def AlP (x : S28) (w : World) (e : Ending) (w' : World) : Prop := e = .returned (.bool (altsB x.f0 x.f4)) ∧ Below w.heap.size w w'
def FmP (flat : Bool) (x : S28) (w : World) (e : Ending) (w' : World) : Prop := e = .returned (.bool (formB flat x)) ∧ Below w.heap.size w w'
theorem FmP.mk {x : S28} {flat : Bool} {w w' : World} {b : Bool} (h : formB flat x = b) (hb : Below w.heap.size w w') : FmP flat x w (.returned (.bool b)) w' := ⟨by rw [h], hb⟩
theorem formB_eq (flat : Bool) (x : S28) : formB flat x = (!((flatOp x.f0 && !flat) || (coreOp x.f0 && flat)) && (decide ((kidsN x.f0 x.f1 x.f2.length x.f3.length x.f4.length).1 = (x.f3.length : Int)) && (((kidsN x.f0 x.f1 x.f2.length x.f3.length x.f4.length).2 || decide (x.f1 = 0)) && (altsB x.f0 x.f4 && bindsB x.f0 x.f2.length)))) := rfl
set_option maxHeartbeats 16000000 in
set_option maxRecDepth 100000 in
theorem formR_calls' (HAL : ∀ (x : S28) (hx : Small x) (A2 A3 A4 : Option Addr) (c2 c3 c4 : Nat) (w : World) (h : Node w x A2 c2 A3 c3 A4 c4), Calls Tryd.prog 105 #[nodeV x A2 c2 A3 c3 A4 c4] w (AlP x w))
    (t : List S28) (flat : Bool) (x : S28) (hx : Small x) (A0 A2 A3 A4 : Option Addr) (c0 c2 c3 c4 : Nat) (w : World) (h : Node w x A2 c2 A3 c3 A4 c4) :
    Calls Tryd.prog 76 #[.slice A0 t.length c0, nodeV x A2 c2 A3 c3 A4 c4, .bool flat] w (FmP flat x w) := by
  have HN := Go.Lib.hid h
  have HX := Go.Lib.hid hx
  have HY0 := Go.Lib.hid (Yx.made w x A2 A3 A4 c2 c3 c4)
  have hb9 : (x.f2.length : Int) ≤ 17592186044416 := by have := hx.b; omega
  have hk9 : (x.f3.length : Int) ≤ 17592186044416 := by have := hx.k; omega
  obtain ⟨x0, x1, x2, x3, x4⟩ := HY0.out.cells
  have HAC := Go.Lib.hid HAL
  clear h hx HAL
  go_enter Tryd.func76, Tryd.ntmps76
  go_upto_region 1 with fail
  go_cut [7] from 11 to 23 (fun s7 wx => s7 = .bool (flatOp x.f0) ∧ Hid (Yx w x A2 c2 A3 c3 A4 c4 wx))
  case first =>
    have HF := Go.Lib.hid (show flatOp x.f0 = if x.f0 = 14 then true else if x.f0 = 15 then true else x.f0 == 16 from rfl)
    by_cases h1 : x.f0 = 14
    · have e1 : (x.f0 == 14) = true := beq_iff_eq.2 h1
      rw [if_pos h1] at HF
      clear h1
      go_wp2_with fail
      go_meet
      exact ⟨by rw [HF.out], HY0⟩
    · have e1 : (x.f0 == 14) = false := beq_eq_false_iff_ne.2 h1
      rw [if_neg h1] at HF
      by_cases h2 : x.f0 = 15
      · have e2 : (x.f0 == 15) = true := beq_iff_eq.2 h2
        rw [if_pos h2] at HF
        clear h1 h2
        go_wp2_with fail
        go_meet
        exact ⟨by rw [HF.out], HY0⟩
      · have e2 : (x.f0 == 15) = false := beq_eq_false_iff_ne.2 h2
        rw [if_neg h2] at HF
        clear h1 h2
        go_wp2_with fail
        go_meet
        exact ⟨by rw [HF.out], HY0⟩
  case rest =>
    obtain ⟨rfl, hy⟩ := hcut
    clear x0 x1 x2 x3 x4 HY0
    obtain ⟨x0, x1, x2, x3, x4⟩ := hy.out.cells
    go_upto_region 2 with fail
    go_cut [8] from 24 to 41 (fun s8 wx => s8 = .bool (coreOp x.f0) ∧ Hid (Yx w x A2 c2 A3 c3 A4 c4 wx))
    case first =>
      have HF := Go.Lib.hid (show coreOp x.f0 = if x.f0 = 2 then true else if x.f0 = 5 then true else if x.f0 = 12 then true else x.f0 == 13 from rfl)
      by_cases h1 : x.f0 = 2
      · have e1 : (x.f0 == 2) = true := beq_iff_eq.2 h1
        rw [if_pos h1] at HF
        clear h1
        go_wp2_with fail
        go_meet
        exact ⟨by rw [HF.out], hy⟩
      · have e1 : (x.f0 == 2) = false := beq_eq_false_iff_ne.2 h1
        rw [if_neg h1] at HF
        by_cases h2 : x.f0 = 5
        · have e2 : (x.f0 == 5) = true := beq_iff_eq.2 h2
          rw [if_pos h2] at HF
          clear h1 h2
          go_wp2_with fail
          go_meet
          exact ⟨by rw [HF.out], hy⟩
        · have e2 : (x.f0 == 5) = false := beq_eq_false_iff_ne.2 h2
          rw [if_neg h2] at HF
          by_cases h3 : x.f0 = 12
          · have e3 : (x.f0 == 12) = true := beq_iff_eq.2 h3
            rw [if_pos h3] at HF
            clear h1 h2 h3
            go_wp2_with fail
            go_meet
            exact ⟨by rw [HF.out], hy⟩
          · have e3 : (x.f0 == 12) = false := beq_eq_false_iff_ne.2 h3
            rw [if_neg h3] at HF
            clear h1 h2 h3
            go_wp2_with fail
            go_meet
            exact ⟨by rw [HF.out], hy⟩
    case rest =>
      obtain ⟨rfl, hy⟩ := hcut
      clear x0 x1 x2 x3 x4
      obtain ⟨x0, x1, x2, x3, x4⟩ := hy.out.cells
      go_wp2_with fail
      refine (kidsOf_calls x HX.out A2 A3 A4 c2 c3 c4 _).mono ?_
      rintro e w1 ⟨rfl, hb1⟩
      have HY1 := Go.Lib.hid (hy.out.below hb1)
      have HAC1 := Go.Lib.hid (show Calls Tryd.prog 105 #[nodeV x A2 c2 A3 c3 A4 c4] w1 (fun e w' => e = .returned (.bool (altsB x.f0 x.f4)) ∧ Below w1.heap.size w1 w') from HAC.out x HX.out A2 A3 A4 c2 c3 c4 w1 (HN.out.below HY1.out.b))
      clear hb1 hy x0 x1 x2 x3 x4 HAC
      obtain ⟨x0, x1, x2, x3, x4⟩ := HY1.out.cells
      have HFB := Go.Lib.hid (formB_eq flat x)
      generalize altsB x.f0 x.f4 = ab at HFB HAC1
      generalize kidsN x.f0 x.f1 x.f2.length x.f3.length x.f4.length = kp at HFB ⊢
      obtain ⟨kc, us⟩ := kp
      simp only at HFB ⊢
      generalize flatOp x.f0 = fo at HFB ⊢
      generalize coreOp x.f0 = co at HFB ⊢
      by_cases hbad : (fo && !flat || co && flat) = true
      · have HV := Go.Lib.hid (FmP.mk (b := false) (by rw [HFB.out, hbad]; rfl) HY1.out.b)
        have hb2 : (fo = true ∧ flat = false) ∨ (co = true ∧ flat = true ∧ fo = false) ∨ (co = true ∧ flat = true ∧ fo = true) := by
          revert hbad; cases fo <;> cases co <;> cases flat <;> simp
        clear hbad
        rcases hb2 with ⟨rfl, rfl⟩ | ⟨rfl, rfl, rfl⟩ | ⟨rfl, rfl, rfl⟩
        all_goals
          go_wp2_with fail
          go_ret
          exact HV.out
      · have hg : (fo = false ∧ co = false ∧ flat = false) ∨ (fo = false ∧ co = false ∧ flat = true) ∨ (fo = false ∧ co = true ∧ flat = false) ∨ (fo = true ∧ co = false ∧ flat = true) := by
          revert hbad; cases fo <;> cases co <;> cases flat <;> simp
        replace HFB := Go.Lib.hid (show formB flat x = (decide (kc = (x.f3.length : Int)) && ((us || decide (x.f1 = 0)) && (ab && bindsB x.f0 x.f2.length))) by
          rw [HFB.out, Bool.eq_false_iff.2 hbad]; rfl)
        clear hbad
        by_cases hk : kc = (x.f3.length : Int)
        · have hk1 : (kc == (x.f3.length : Int)) = true := beq_iff_eq.2 hk
          have hk2 : (kc != (x.f3.length : Int)) = false := by rw [bne, hk1]; rfl
          by_cases hu : us = true ∨ x.f1 = 0
          · have hu2 : us = true ∨ (us = false ∧ (x.f1 == 0) = true ∧ (x.f1 != 0) = false) := by
              rcases hu with h | h
              · exact Or.inl h
              · cases us
                · exact Or.inr ⟨rfl, by simp [h], by simp [h]⟩
                · exact Or.inl rfl
            replace HFB := Go.Lib.hid (show formB flat x = (ab && bindsB x.f0 x.f2.length) by
              rw [HFB.out, decide_eq_true hk]
              rcases hu with h | h
              · rw [h]; rfl
              · rw [decide_eq_true h, Bool.or_true]; rfl)
            clear hk hu
            rcases hg with ⟨rfl, rfl, rfl⟩ | ⟨rfl, rfl, rfl⟩ | ⟨rfl, rfl, rfl⟩ | ⟨rfl, rfl, rfl⟩
            all_goals rcases hu2 with rfl | ⟨rfl, hu3, hu4⟩
            all_goals
              go_wp2_with fail
              refine HAC1.out.mono ?_
              rintro e w2 ⟨rfl, hb2⟩
              have HY2 := Go.Lib.hid (HY1.out.below hb2)
              clear hb2 x0 x1 x2 x3 x4
              obtain ⟨x0, x1, x2, x3, x4⟩ := HY2.out.cells
              cases ab with
              | false =>
                have HV := Go.Lib.hid (FmP.mk (b := false) (by rw [HFB.out]; rfl) HY2.out.b)
                go_wp2_with fail
                go_ret
                exact HV.out
              | true =>
                have HFC := Go.Lib.hid (show formB _ x = bindsB x.f0 x.f2.length from by rw [HFB.out]; rfl)
                go_wp2_with fail
                all_goals
                  go_ret
                  refine FmP.mk ?_ HY2.out.b
                  rw [HFC.out]
                  simp_all [bindsB]
          · have hu1 : us = false ∧ ¬ x.f1 = 0 := by
              revert hu; cases us <;> simp
            have HV := Go.Lib.hid (FmP.mk (x := x) (flat := flat) (b := false) (by rw [HFB.out, hu1.1, decide_eq_false hu1.2, Bool.false_or, Bool.false_and, Bool.and_false]) HY1.out.b)
            obtain ⟨rfl, hn0⟩ := hu1
            have hn1 : (x.f1 == 0) = false := beq_eq_false_iff_ne.2 hn0
            have hn2 : (x.f1 != 0) = true := by rw [bne, hn1]; rfl
            clear hk hu hn0
            rcases hg with ⟨rfl, rfl, rfl⟩ | ⟨rfl, rfl, rfl⟩ | ⟨rfl, rfl, rfl⟩ | ⟨rfl, rfl, rfl⟩
            all_goals
              go_wp2_with fail
              go_ret
              exact HV.out
        · have hk1 : (kc == (x.f3.length : Int)) = false := beq_eq_false_iff_ne.2 hk
          have hk2 : (kc != (x.f3.length : Int)) = true := by rw [bne, hk1]; rfl
          have HV := Go.Lib.hid (FmP.mk (x := x) (flat := flat) (b := false) (by rw [HFB.out, decide_eq_false hk, Bool.false_and]) HY1.out.b)
          clear hk
          rcases hg with ⟨rfl, rfl, rfl⟩ | ⟨rfl, rfl, rfl⟩ | ⟨rfl, rfl, rfl⟩ | ⟨rfl, rfl, rfl⟩
          all_goals
            go_wp2_with fail
            go_ret
            exact HV.out
end Go.Proofs.YtjhinklijopobaaDoor.Co
