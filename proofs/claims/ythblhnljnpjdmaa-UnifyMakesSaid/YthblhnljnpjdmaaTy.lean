import Derived.Test.YthblhnljnpjdmaaPUnifyMakesx0
import Derived.Lib.Hide
import Derived.Outline
namespace Go.Proofs.Ythblhnljnpjdmaa.Ty
open Go.RowKit Go.Proofs.Ythblhnljnpjdmaa.PUnifyMakes Go.Proofs.YthblhnljnpjdmaaW.PrintWords Go.Proofs.YthblhnljnpjdmaaW.PrintLast Go.Proofs.YthblhnljnpjdmaaW.PrintMore

/-- A value of type api.Type. -/
abbrev tyV (x : S24) (A : Option Addr) (c : Nat) : Value := .agg #[.int .i64 x.f0, .string x.f1, .int .i64 x.f2, .slice A x.f3.length c]

/-- exact returns true of two values that read as one type. -/
def ExactSame (x : S24) : Prop := ∀ (w : World) (A B : Option Addr) (c d : Nat), k24.C w A x.f3.length x.f3 → k24.C w B x.f3.length x.f3 →
    Calls Try.prog 10 #[tyV x A c, tyV x B d] w fun e w' => e = .returned (.bool true) ∧ Below w.heap.size w w'

theorem lift1 {w : World} {a : Addr} {v : Value} (h : w.cell? a = some v) : ∀ o, (w.alloc o).cell? a = some v := fun o => pw_cell_below ((Below.refl _ _).alloc (Nat.le_refl _) o) h

theorem C_bound {w : World} {A : Option Addr} {l : List S24} (h : k24.C w A l.length l) : l.length ≤ 9223372036854775807 := h.2.1

set_option maxRecDepth 100000 in
theorem ef_same (l : List S24) (hx : ∀ y ∈ l, ExactSame y) (w : World) (A B : Option Addr) (c d : Nat) (hA : k24.C w A l.length l) (hB : k24.C w B l.length l) :
    Calls Try.prog 16 #[.slice A l.length c, .slice B l.length d, .func (.func 10) #[] #[]] w fun e w' => e = .returned (.bool true) ∧ Below w.heap.size w w' := by
  have hl := C_bound hA
  have HA := Go.Lib.hid hA
  have HB := Go.Lib.hid hB
  have HX := Go.Lib.hid hx
  clear hA hB hx
  go_enter Try.func16, Try.ntmps16
  go_wp2_with fail
  go_loopg [17] l.length (fun k v wr => ∃ i : Nat, i + k = l.length ∧ v = .int .i64 i ∧ Below w.heap.size w wr)
  case atStart => exact ⟨0, by omega, rfl, Below.refl _ _⟩
  case round =>
    obtain ⟨i, hi, rfl, hb⟩ := hrel
    have HI := Go.Lib.hid hi
    clear hi
    by_cases hlt : i < l.length
    · obtain ⟨ad, A3, c3, rfl, x0, x1, x2, x3, _, g3⟩ := at_T24 (Kd.C_below HA.out hb) i (by omega) (by omega)
      obtain ⟨bd, B3, d3, rfl, y0, y1, y2, y3, _, k3⟩ := at_T24 (Kd.C_below HB.out hb) i (by omega) (by omega)
      have hm : rd_T24 l i ∈ l := by
        unfold rd_T24
        rw [Int.toNat_natCast, List.getD_eq_getElem?_getD, List.getElem?_eq_getElem hlt]
        exact List.getElem_mem hlt
      have HM := Go.Lib.hid (HX.out _ hm)
      have HG := Go.Lib.hid g3
      have HK := Go.Lib.hid k3
      clear hm g3 k3
      generalize rd_T24 l i = y at *
      rw [Int.toNat_natCast] at x0 x1 x2 x3 y0 y1 y2 y3
      replace y0 := lift1 y0
      replace y1 := lift1 y1
      replace y2 := lift1 y2
      replace y3 := lift1 y3
      have hbb := Go.Lib.hid (fun o o' => (Kd.C_below HG.out (((Below.refl wr.heap.size wr).alloc (Nat.le_refl _) o).alloc (by simp) o') : k24.C ((wr.alloc o).alloc o') A3 y.f3.length y.f3))
      have hbc := Go.Lib.hid (fun o o' => (Kd.C_below HK.out (((Below.refl wr.heap.size wr).alloc (Nat.le_refl _) o).alloc (by simp) o') : k24.C ((wr.alloc o).alloc o') B3 y.f3.length y.f3))
      go_wp2_with fail
      refine (HM.out _ _ _ _ _ (hbb.out _ _) (hbc.out _ _)).mono ?_
      rintro e w1 ⟨rfl, hb1⟩
      go_wp2_with fail
      go_roundg (gk - 1)
      case measure => have := HI.out; omega
      case rel => exact ⟨i + 1, by have := HI.out; omega, by go_num, hb.trans (((Below.refl wr.heap.size wr).alloc (Nat.le_refl _) _ |>.alloc (by simp) _ |>.trans (hb1.mono (by simp; omega))).mono hb.size)⟩
    · go_wp2_with fail
      go_ret
      exact ⟨rfl, hb⟩

set_option maxRecDepth 100000 in
theorem exact_step (x : S24) (hx : ∀ y ∈ x.f3, ExactSame y) : ExactSame x := by
  intro w A B c d hA hB
  have HA := Go.Lib.hid (fun o o' => (Kd.C_below hA (((Below.refl w.heap.size w).alloc (Nat.le_refl _) o).alloc (by simp) o') : k24.C ((w.alloc o).alloc o') A x.f3.length x.f3))
  have HB := Go.Lib.hid (fun o o' => (Kd.C_below hB (((Below.refl w.heap.size w).alloc (Nat.le_refl _) o).alloc (by simp) o') : k24.C ((w.alloc o).alloc o') B x.f3.length x.f3))
  clear hA hB
  have HX := Go.Lib.hid hx
  clear hx
  go_enter Try.func10, Try.ntmps10
  go_wp2_with fail
  refine (ef_same _ HX.out _ _ _ _ _ (HA.out _ _) (HB.out _ _)).mono ?_
  rintro e w1 ⟨rfl, hb1⟩
  go_wp2_with fail
  go_ret
  exact ⟨rfl, (((Below.refl w.heap.size w).alloc (Nat.le_refl _) _ |>.alloc (by simp) _ |>.trans (hb1.mono (by simp; omega))))⟩

theorem exact_same (x : S24) : ExactSame x := exact_step x (fun y _ => exact_same y)
termination_by SizeOf.sizeOf x
decreasing_by
  rename_i h
  have := List.sizeOf_lt_of_mem h
  cases x
  simp at *
  omega

/-- A result of Walk. -/
def WalkPost (w : World) (r : S24) (e : Ending) : Prop := ∃ B' d', e = .returned (tyV r B' d') ∧ k24.C w B' r.f3.length r.f3

/-- Where Walk ends. -/
def walkTo (l : List S24) : Nat → S24 → Option S24
  | 0, _ => none
  | k + 1, y => if y.f0 = 0 ∧ y.f2 < (l.length : Int) then (if y.f2 < 0 then none else (if (rd_T24 l y.f2).f0 = 0 ∧ (rd_T24 l y.f2).f2 = y.f2 then some y else walkTo l k (rd_T24 l y.f2))) else some y


theorem put4 {w : World} {g : Nat} {t : TypeId} {a b c d : Value} (h : w.heap[g]? = some (.cells #[a, b, c, d] t (0, 0))) (a' b' c' d' : Value) : ((((w.setCell ⟨g, 0, none⟩ a').setCell ⟨g, 1, none⟩ b').setCell ⟨g, 2, none⟩ c').setCell ⟨g, 3, none⟩ d').heap[g]? = some (.cells #[a', b', c', d'] t (0, 0)) :=
  blk_put (blk_put (blk_put (blk_put h 0 a' rfl) 1 b' rfl) 2 c' rfl) 3 d' rfl

theorem put4_below {w W : World} {g : Nat} (h : Below w.heap.size w W) (hg : w.heap.size ≤ g) (a' b' c' d' : Value) : Below w.heap.size w ((((W.setCell ⟨g, 0, none⟩ a').setCell ⟨g, 1, none⟩ b').setCell ⟨g, 2, none⟩ c').setCell ⟨g, 3, none⟩ d') :=
  below_set (below_set (below_set (below_set h hg) hg) hg) hg

theorem put4_far {w : World} {g g' : Nat} {o : Obj} (h : w.heap[g']? = some o) (hne : g' ≠ g) (a' b' c' d' : Value) : ((((w.setCell ⟨g, 0, none⟩ a').setCell ⟨g, 1, none⟩ b').setCell ⟨g, 2, none⟩ c').setCell ⟨g, 3, none⟩ d').heap[g']? = some o := by
  have one : ∀ {w : World} (i : Nat) (v : Value), w.heap[g']? = some o → (w.setCell ⟨g, i, none⟩ v).heap[g']? = some o := fun {w} i v h => (Below.heap_setCell w ⟨g, i, none⟩ v g' hne).trans h
  exact one _ _ (one _ _ (one _ _ (one _ _ h)))

set_option maxRecDepth 100000 in
theorem walk_calls (N : Nat) (l : List S24) (x r : S24) (A B : Option Addr) (c d : Nat) (w : World) (hA : k24.C w A l.length l) (hB : k24.C w B x.f3.length x.f3) (hw : walkTo l N x = some r) :
    Calls Try.prog 11 #[.slice A l.length c, tyV x B d] w fun e w' => WalkPost w r e ∧ Below w.heap.size w w' := by
  have HA := Go.Lib.hid hA
  have HB := Go.Lib.hid hB
  have HW := Go.Lib.hid hw
  clear hA hB hw
  go_enter Try.func11, Try.ntmps11
  go_wp2_with fail
  go_loopg [] N (fun k wr => ∃ (y : S24) (Y : Option Addr) (e : Nat) (u0 : Int) (u1 : ByteArray) (u2 : Int) (u3 : Value), Hid (walkTo l k y = some r) ∧ Hid (k24.C w Y y.f3.length y.f3) ∧ wr.heap[w.heap.size]? = some (.cells #[.int .i64 y.f0, .string y.f1, .int .i64 y.f2, .slice Y y.f3.length e] 24 (0, 0)) ∧ wr.heap[w.heap.size + 1]? = some (.cells #[.int .i64 u0, .string u1, .int .i64 u2, u3] 24 (0, 0)) ∧ Hid (Below w.heap.size w wr))
  case atStart => exact ⟨x, B, d, _, _, _, _, HW, HB, blk_alloc (blk_new w _) _, by simpa using blk_new (w.alloc _) _, Go.Lib.hid (((Below.refl w.heap.size w).alloc (Nat.le_refl _) _).alloc (by simp) _)⟩
  case round =>
    obtain ⟨y, Y, e, u0, u1, u2, u3, hy, hY, g0, g1, hb⟩ := hrel
    have c0 : wr.cell? ⟨w.heap.size, 0, none⟩ = some (.int .i64 y.f0) := (blk_cell g0 0).trans rfl
    have c1 : wr.cell? ⟨w.heap.size, 1, none⟩ = some (.string y.f1) := (blk_cell g0 1).trans rfl
    have c2 : wr.cell? ⟨w.heap.size, 2, none⟩ = some (.int .i64 y.f2) := (blk_cell g0 2).trans rfl
    have c3 : wr.cell? ⟨w.heap.size, 3, none⟩ = some (.slice Y y.f3.length e) := (blk_cell g0 3).trans rfl
    have fr0 := fun i => blk_frozen g0 i
    have fr1 := fun i => blk_frozen g1 i
    have d0 : wr.cell? ⟨w.heap.size + 1, 0, none⟩ = some (.int .i64 u0) := (blk_cell g1 0).trans rfl
    have d1 : wr.cell? ⟨w.heap.size + 1, 1, none⟩ = some (.string u1) := (blk_cell g1 1).trans rfl
    have d2 : wr.cell? ⟨w.heap.size + 1, 2, none⟩ = some (.int .i64 u2) := (blk_cell g1 2).trans rfl
    have d3 : wr.cell? ⟨w.heap.size + 1, 3, none⟩ = some u3 := (blk_cell g1 3).trans rfl
    have G0 := Go.Lib.hid g0
    have G1 := Go.Lib.hid g1
    clear g0 g1
    by_cases ht : y.f0 = 0
    · have ht' : (y.f0 == 0) = true := beq_iff_eq.mpr ht
      have ht2 := Go.Lib.hid ht
      clear ht
      by_cases hl : y.f2 < (l.length : Int)
      · have hl' : decide (y.f2 < (l.length : Int)) = true := decide_eq_true hl
        have hl2 := Go.Lib.hid hl
        by_cases h0 : y.f2 < 0
        · exfalso
          have h := hy.out
          cases gk with
          | zero => simp [walkTo] at h
          | succ k => rw [walkTo, if_pos ⟨ht2.out, hl⟩, if_pos h0] at h; exact absurd h (by simp)
        obtain ⟨ad, A3, q3, rfl, x0, x1, x2, x3, _, g3⟩ := at_T24 (Kd.C_below HA.out hb.out) y.f2 (by omega) hl
        have hC := Go.Lib.hid (at_T24 HA.out y.f2 (by omega) hl)
        have G3 := Go.Lib.hid g3
        clear g3
        generalize hn : rd_T24 l y.f2 = n at *
        have HN := Go.Lib.hid hn
        clear hn
        have hlo : 0 ≤ y.f2 := by omega
        clear h0
        have l0 := lift1 c0
        have l1 := lift1 c1
        have l2 := lift1 c2
        have l3 := lift1 c3
        have m0 := lift1 d0
        have m1 := lift1 d1
        have m2 := lift1 d2
        have m3 := lift1 d3
        have f0 := fun o i => blk_frozen (blk_alloc G0.out o) i
        have f1 := fun o i => blk_frozen (blk_alloc G1.out o) i
        by_cases hq : n.f0 = 0 ∧ n.f2 = y.f2
        · obtain ⟨q1, q2⟩ := hq
          have q1' : (n.f0 == 0) = true := beq_iff_eq.mpr q1
          have q2' : (n.f2 == y.f2) = true := beq_iff_eq.mpr q2
          have Q1 := Go.Lib.hid q1
          have Q2 := Go.Lib.hid q2
          clear q1 q2
          go_wp2_with fail
          refine bodyPost_ret (results_cell_row rfl _ _ (w.heap.size + 1) 24 _ (0, 0) _ rfl (put4 (blk_alloc G1.out _) _ _ _ _) rfl rfl rfl) rfl ?_
          cases gk with
          | zero => exact absurd hy.out (by simp [walkTo])
          | succ k =>
            have h := hy.out
            rw [walkTo, if_pos ⟨ht2.out, hl2.out⟩, if_neg (by omega), HN.out, if_pos ⟨Q1.out, Q2.out⟩] at h
            obtain rfl := Option.some.inj h
            exact ⟨⟨Y, e, rfl, hY.out⟩, put4_below (hb.out.alloc hb.out.size _) (by omega) _ _ _ _⟩
        · have HQ := Go.Lib.hid hq
          have HS : Hid (k24.C w A3 n.f3.length n.f3) := by
            obtain ⟨ad', A3', q3', e1, y0, y1, y2, y3, _, g3'⟩ := hC.out
            obtain rfl := Option.some.inj e1
            have := (pw_cell_below hb.out y3).symm.trans x3
            obtain ⟨rfl, -, -⟩ := Value.slice.inj (Option.some.inj this)
            exact g3'
          have hnx : Hid (walkTo l (gk - 1) n = some r) := by
            have h := hy.out
            cases gk with
            | zero => exact absurd h (by simp [walkTo])
            | succ k =>
              rw [walkTo, if_pos ⟨ht2.out, hl2.out⟩, if_neg (by omega), HN.out, if_neg HQ.out] at h
              exact h
          have hm : Hid (gk - 1 < gk) := by
            cases gk with
            | zero => exact absurd hy.out (by simp [walkTo])
            | succ k => show k + 1 - 1 < k + 1; omega
          by_cases q1 : n.f0 = 0
          · have q2 : ¬ n.f2 = y.f2 := fun h => HQ.out ⟨q1, h⟩
            have q1' : (n.f0 == 0) = true := beq_iff_eq.mpr q1
            have q2' : (n.f2 == y.f2) = false := beq_eq_false_iff_ne.mpr q2
            clear q1 q2 hq
            go_wp2_with fail
            go_roundg (gk - 1)
            case measure => exact hm.out
            case rel => exact ⟨n, A3, q3, _, _, _, _, hnx, HS, put4 (blk_alloc G0.out _) _ _ _ _, put4_far (blk_alloc G1.out _) (by omega) _ _ _ _, Go.Lib.hid (put4_below (hb.out.alloc hb.out.size _) (by omega) _ _ _ _)⟩
          · have q1' : (n.f0 == 0) = false := beq_eq_false_iff_ne.mpr q1
            clear q1 hq
            go_wp2_with fail
            go_roundg (gk - 1)
            case measure => exact hm.out
            case rel => exact ⟨n, A3, q3, _, _, _, _, hnx, HS, put4 (blk_alloc G0.out _) _ _ _ _, put4_far (blk_alloc G1.out _) (by omega) _ _ _ _, Go.Lib.hid (put4_below (hb.out.alloc hb.out.size _) (by omega) _ _ _ _)⟩
      · have hl' : decide (y.f2 < (l.length : Int)) = false := decide_eq_false hl
        have hl2 := Go.Lib.hid hl
        clear hl
        go_wp2_with fail
        refine bodyPost_ret (results_cell_row rfl _ _ (w.heap.size + 1) 24 _ (0, 0) _ rfl (put4 G1.out _ _ _ _) rfl rfl rfl) rfl ?_
        cases gk with
        | zero => exact absurd hy.out (by simp [walkTo])
        | succ k =>
          have h := hy.out
          rw [walkTo, if_neg (by intro h; have := hl2.out; omega)] at h
          obtain rfl := Option.some.inj h
          exact ⟨⟨Y, e, rfl, hY.out⟩, put4_below hb.out (by omega) _ _ _ _⟩
    · have ht' : (y.f0 == 0) = false := beq_eq_false_iff_ne.mpr ht
      have ht2 := Go.Lib.hid ht
      clear ht
      go_wp2_with fail
      refine bodyPost_ret (results_cell_row rfl _ _ (w.heap.size + 1) 24 _ (0, 0) _ rfl (put4 G1.out _ _ _ _) rfl rfl rfl) rfl ?_
      cases gk with
      | zero => exact absurd hy.out (by simp [walkTo])
      | succ k =>
        have h := hy.out
        rw [walkTo, if_neg (by intro h; exact ht2.out h.1)] at h
        obtain rfl := Option.some.inj h
        exact ⟨⟨Y, e, rfl, hY.out⟩, put4_below hb.out (by omega) _ _ _ _⟩
end Go.Proofs.Ythblhnljnpjdmaa.Ty
