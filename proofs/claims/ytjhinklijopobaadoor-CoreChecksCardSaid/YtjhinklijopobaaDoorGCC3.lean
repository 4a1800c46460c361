import Derived.Test.YtjhinklijopobaaDoorGCC2
import Derived.Maps.OwnSet
import Derived.Maps.RangeWalk
import Derived.WalkArith
import Derived.Lib.SliceRun
namespace Go.Proofs.YtjhinklijopobaaDoor.Co
open Go.RowKit Go.Proofs.YtjhinklijopobaaDoor.PCoreChecks Go.Proofs.YtjhinklijopobaaDoorW.PrintWords Go.Proofs.YtjhinklijopobaaDoorW.PrintLast Go.Proofs.YtjhinklijopobaaDoorW.PrintMore
set_option linter.unusedVariables false
set_option linter.unusedSimpArgs false

/-! ### A node by itself, as the program checks it -/
def KidP (x : S28) (w : World) (e : Ending) (w' : World) : Prop := ∃ A2 c2 A3 c3 A4 c4, e = .returned (nodeV x A2 c2 A3 c3 A4 c4) ∧ Below w.heap.size w w'
theorem KidP.mk {x : S28} {w w' : World} {A2 A3 A4 : Option Addr} {c2 c3 c4 : Nat} (hb : Below w.heap.size w w') : KidP x w (.returned (nodeV x A2 c2 A3 c3 A4 c4)) w' := ⟨A2, c2, A3, c3, A4, c4, rfl, hb⟩
set_option maxHeartbeats 4000000 in
set_option maxRecDepth 100000 in
theorem kid_calls (t : List S28) (k : Nat) (hk : k < t.length) (A0 : Option Addr) (c0 ge : Nat) (w : World) (hr : Kd.C k28 w A0 t.length t) (hg : w.cell? ⟨ge, 0, none⟩ = some (.slice A0 t.length c0)) :
    Calls Tryd.prog 72 #[.int .i64 (k : Int), .pointer (some ⟨ge, 0, none⟩)] w (KidP (rd_T28 t (k : Int)) w) := by
  have ht9 : (t.length : Int) ≤ 9223372036854775807 := by have := hr.2.1; omega
  have hki : (k : Int) < (t.length : Int) := by omega
  have hk0 : (0 : Int) ≤ (k : Int) := by omega
  obtain ⟨ad, A2, c2, A3, c3, A4, c4, e_, p0, p1, p2, p3, p4, -, -, -, -, -, -⟩ := at_T28 hr (k : Int) hk0 hki
  cases e_
  rw [Int.toNat_natCast] at p0 p1 p2 p3 p4
  generalize rd_T28 t (k : Int) = x at p0 p1 p2 p3 p4
  have hb := below_alloc (Below.refl w.heap.size w) (.cells #[.int .i64 0, .int .i64 0, .slice none 0 0, .slice none 0 0, .slice none 0 0] 28)
  replace p0 := pw_cell_below hb p0
  replace p1 := pw_cell_below hb p1
  replace p2 := pw_cell_below hb p2
  replace p3 := pw_cell_below hb p3
  replace p4 := pw_cell_below hb p4
  replace hg := pw_cell_below hb hg
  have HB := Go.Lib.hid hb
  clear hr hk hb
  go_enter Tryd.func72, Tryd.ntmps72
  go_wp2_with fail
  exact bodyPost_ret (results_cell_row rfl _ _ w.heap.size 28 _ (0, 0) _ rfl (blk_new w _) rfl rfl rfl) rfl (KidP.mk (x := x) (below_alloc (Below.refl _ _) _))

def nodeErrP (t : List S28) (x : S28) : Int := if shapeB x = true then (if numErr x = 0 then (if kidsB t x = true then 0 else 3) else numErr x) else 3
theorem nodeErr_eq (flat : Bool) (t : List S28) (x : S28) : nodeErr flat t x = if opBad flat x.f0 = true then 3 else nodeErrP t x := by
  unfold nodeErr nodeErrP formB
  cases opBad flat x.f0 <;> cases shapeB x <;> simp
def NoP (t : List S28) (x : S28) (w : World) (e : Ending) (w' : World) : Prop := e = .returned (.int .i64 (nodeErrP t x)) ∧ Below w.heap.size w w'
theorem NoP.mk {t : List S28} {x : S28} {w w' : World} {v : Int} (h : nodeErrP t x = v) (hb : Below w.heap.size w w') : NoP t x w (.returned (.int .i64 v)) w' := ⟨by rw [h], hb⟩
theorem shape_parts {x : S28} (h : shapeB x = true) : (kidsN x.f0 x.f1 x.f2.length x.f3.length x.f4.length).1 = (x.f3.length : Int) ∧ altsB x.f0 x.f4 = true ∧ bindsB x.f0 x.f2.length = true := by
  unfold shapeB at h
  simp only [Bool.and_eq_true, decide_eq_true_eq] at h
  exact ⟨h.1, h.2.2.1, h.2.2.2⟩
theorem shape_none {x : S28} (h : shapeB x = true) (h7 : ¬ (x.f0 = 7 ∨ x.f0 = 13)) : x.f4 = [] := by
  have h1 := (shape_parts h).2.1
  unfold altsB at h1
  rw [if_neg h7] at h1
  exact List.eq_nil_of_length_eq_zero (of_decide_eq_true h1)
theorem shape_rec {x : S28} (h : shapeB x = true) (h5 : x.f0 = 5) : x.f3.length = x.f2.length + 1 := by
  have h1 := (shape_parts h).1
  unfold kidsN at h1
  rw [if_neg (by omega), if_neg (by omega), if_neg (by omega), if_neg (by omega), if_pos h5] at h1
  simp only at h1
  omega
theorem kidB_bad {t : List S28} {x : S28} {i : Nat} (hs : shapeB x = true) (hn : numErr x = 0) (hi : i < x.f2.length) (h : kidB t x i = false) : nodeErrP t x = 3 := by
  unfold nodeErrP
  rw [hs, if_pos rfl, if_pos hn, if_neg]
  unfold kidsB
  rw [List.all_eq_true]
  intro h2
  have := h2 i (List.mem_range.2 hi)
  rw [h] at this
  cases this
/-- What stays while the kid is looked at. -/
def Kq (w : World) (x : S28) (A2 A3 A4 : Option Addr) (c2 c3 c4 : Nat) (ad : Addr) (i : Nat) (y : Int) (w' : World) : Prop :=
  w'.cell? ⟨w.heap.size, 0, none⟩ = some (.int .i64 x.f0) ∧ w'.cell? ⟨w.heap.size, 3, none⟩ = some (.slice A3 x.f3.length c3) ∧ w'.cell? (ad.add i) = some (.int .i64 y) ∧ Hid (Kx w x A2 c2 A3 c3 A4 c4 w')
theorem Kq.below {w : World} {x : S28} {A2 A3 A4 : Option Addr} {c2 c3 c4 : Nat} {ad : Addr} {i : Nat} {y : Int} {W W' : World} (h : Kq w x A2 A3 A4 c2 c3 c4 ad i y W) (hb : Below W.heap.size W W') : Kq w x A2 A3 A4 c2 c3 c4 ad i y W' :=
  ⟨pw_cell_below hb h.1, pw_cell_below hb h.2.1, pw_cell_below hb h.2.2.1, Go.Lib.hid (h.2.2.2.out.below hb)⟩
theorem kid_arm {t : List S28} {k : Nat} {A0 : Option Addr} {c0 ge : Nat} {w : World} {x : S28} {A2 A3 A4 : Option Addr} {c2 c3 c4 : Nat} {ad : Addr} {i : Nat} {y : Int} {w' : World}
    (hk : Hid (k < t.length)) (hr : Hid (Kd.C k28 w A0 t.length t)) (hg : Hid (w.cell? ⟨ge, 0, none⟩ = some (.slice A0 t.length c0))) (h : Kq w x A2 A3 A4 c2 c3 c4 ad i y w') :
    Calls Tryd.prog 72 #[.int .i64 (k : Int), .pointer (some ⟨ge, 0, none⟩)] w' fun e wn => ∃ B2 d2 B3 d3 B4 d4, e = .returned (nodeV (rd_T28 t (k : Int)) B2 d2 B3 d3 B4 d4) ∧ Kq w x A2 A3 A4 c2 c3 c4 ad i y wn :=
  (kid_calls t k hk.out A0 c0 ge w' (Kd.C_below hr.out h.2.2.2.out.b) (pw_cell_below h.2.2.2.out.b hg.out)).mono fun e wn h2 => by
    obtain ⟨B2, d2, B3, d3, B4, d4, rfl, hb⟩ := h2
    exact ⟨B2, d2, B3, d3, B4, d4, rfl, h.below hb⟩
set_option maxHeartbeats 8000000 in
set_option maxRecDepth 100000 in
theorem nodeError_calls (t : List S28) (x : S28) (hx : Small x) (htr : treeB t = true) (hm : x ∈ t) (A0 A2 A3 A4 : Option Addr) (c0 c2 c3 c4 ge : Nat) (w : World) (hT : Tab w) (hr : Kd.C k28 w A0 t.length t) (hg : w.cell? ⟨ge, 0, none⟩ = some (.slice A0 t.length c0)) (h : Node w x A2 c2 A3 c3 A4 c4) :
    Calls Tryd.prog 71 #[nodeV x A2 c2 A3 c3 A4 c4, .func (.func 72) #[] #[.pointer (some ⟨ge, 0, none⟩)]] w (NoP t x w) := by
  have HN := Go.Lib.hid h
  have HR := Go.Lib.hid hr
  have HG := Go.Lib.hid hg
  have HT := Go.Lib.hid hT
  have HS := Go.Lib.hid hx
  have HTR := Go.Lib.hid htr
  have HM := Go.Lib.hid hm
  have HK0 := Go.Lib.hid (Kx.made w x A2 A3 A4 c2 c3 c4)
  have HSH := Go.Lib.hid (shape_calls x hx A2 A3 A4 c2 c3 c4 _ (hT.below HK0.out.b) (h.below HK0.out.b))
  have hb9 : (x.f2.length : Int) ≤ 17592186044416 := by have := hx.b; omega
  have hk9 : (x.f3.length : Int) ≤ 17592186044416 := by have := hx.k; omega
  clear h hr hg hT hx htr hm
  go_enter Tryd.func71, Tryd.ntmps71
  go_wp2_with fail
  refine HSH.out.mono ?_
  rintro e w1 ⟨rfl, hb1⟩
  have HK1 := Go.Lib.hid (HK0.out.below hb1)
  obtain ⟨x0, x1, x2, x3, x4⟩ := HK1.out.bx.cells
  clear hb1 HK0 HSH
  cases hsh : shapeB x with
  | false =>
    have HV := Go.Lib.hid (NoP.mk (t := t) (x := x) (w := w) (v := 3) (by unfold nodeErrP; rw [hsh]; rfl) HK1.out.b)
    clear hsh
    go_wp2_with fail
    go_ret
    exact HV.out
  | true =>
    have HSB := Go.Lib.hid hsh
    clear hsh
    have HRN := Go.Lib.hid (rngC_calls x HS.out (fun h2 => shape_none HSB.out (by omega)) A2 A3 A4 c2 c3 c4 w1 (HN.out.below HK1.out.b))
    go_wp2_with fail
    refine HRN.out.mono ?_
    rintro e w2 ⟨rfl, hb2⟩
    have HK2 := Go.Lib.hid (HK1.out.below hb2)
    clear x0 x1 x2 x3 x4
    obtain ⟨x0, x1, x2, x3, x4⟩ := HK2.out.bx.cells
    clear hb2 HK1 HRN
    by_cases hne : numErr x = 0
    · have hb : (numErr x == 0) = true := beq_iff_eq.2 hne
      have hb1 : (numErr x != 0) = false := by simp [hne]
      have HNE := Go.Lib.hid hne
      clear hne
      go_wp2_with fail
      go_loopg [18] x.f2.length (fun g_ v18 w' => ∃ i : Nat, Hid (i + g_ = x.f2.length) ∧ v18 = .int .i64 i ∧ Hid (∀ j, j < i → kidB t x j = true) ∧ Hid (Kx w x A2 c2 A3 c3 A4 c4 w'))
      case atStart => exact ⟨0, Go.Lib.hid (by omega), rfl, Go.Lib.hid (by omega), HK2⟩
      case round =>
        clear HK2 x0 x1 x2 x3 x4
        obtain ⟨i, hi, rfl, ha, hk⟩ := hrel
        obtain ⟨wo, hwo⟩ : ∃ wo : World, wo = wr := ⟨_, rfl⟩
        subst hwo
        obtain ⟨x0, x1, x2, x3, x4⟩ := hk.out.bx.cells
        by_cases hlt : i < x.f2.length
        · have hlt' : (i : Int) < (x.f2.length : Int) := by omega
          have hi0 : (0 : Int) ≤ (i : Int) := by omega
          have HI := Go.Lib.hid hlt
          have HBAD := Go.Lib.hid (show kidB t x i = false → nodeErrP t x = 3 from kidB_bad HSB.out HNE.out hlt)
          have HGO := Go.Lib.hid (show kidB t x i = true → ∀ j, j < i + 1 → kidB t x j = true from fun h j hj => by
            by_cases e : j = i
            · subst e; exact h
            · exact ha.out j (by omega))
          have HKD := Go.Lib.hid (show kidB t x i = !((decide (x.f0 = 5) && decide ((rd_T28 t (rd x.f3 i)).f0 ≠ 2)) || (decide (x.f0 = 9) && (decide (0 < i) && decide (rd x.f2 i ≤ rd x.f2 ((i : Int) - 1))))) from rfl)
          clear ha
          by_cases h5 : x.f0 = 5
          · have e5 : (x.f0 == 5) = true := beq_iff_eq.2 h5
            have e9 : (x.f0 == 9) = false := beq_eq_false_iff_ne.2 (by omega)
            have hlk : i < x.f3.length := by have := shape_rec HSB.out h5; omega
            rw [decide_eq_true h5, decide_eq_false (show ¬ x.f0 = 9 by omega), Bool.true_and, Bool.false_and, Bool.or_false] at HKD
            clear h5
            have hlk' : (i : Int) < (x.f3.length : Int) := by omega
            obtain ⟨ad, e_, q0⟩ := Kd.at_int (Kd.C_below HN.out.g3 hk.out.b) (i : Int) hi0 hlk'
            cases e_
            rw [Int.toNat_natCast] at q0
            obtain ⟨k, hkk, hkt⟩ : ∃ k : Nat, rd x.f3 (i : Int) = (k : Int) ∧ k < t.length := by
              obtain ⟨j, hj, e⟩ := List.mem_iff_getElem.1 HM.out
              obtain ⟨-, hr, -⟩ := treeB_parts HTR.out
              have hb := badK_mem (rB_at hr j hj) (by rw [e]; exact List.getElem_mem hlk)
              refine ⟨(x.f3[i]'hlk).toNat, ?_, by omega⟩
              rw [rd_nat x.f3 i hlk]; omega
            rw [hkk] at q0 HKD
            have HKT := Go.Lib.hid hkt
            have HQ := Go.Lib.hid (show Kq w x A2 (some ad) A4 c2 c3 c4 ad i (k : Int) wo from ⟨x0, x3, q0, hk⟩)
            have hfd : ∀ (a b c d e : Value) (W : World), (Instr.field 28 (.agg #[a, b, c, d, e]) 0).run Tryd.prog W = .ok a W := fun a b c d e W => by kernel_rfl
            by_cases hz : (rd_T28 t (k : Int)).f0 = 2
            · have z1 : ((rd_T28 t (k : Int)).f0 == 2) = true := beq_iff_eq.2 hz
              have z2 : ((rd_T28 t (k : Int)).f0 != 2) = false := by simp [hz]
              rw [decide_eq_false (show ¬ (rd_T28 t (k : Int)).f0 ≠ 2 from fun h => h hz)] at HKD
              clear hz
              clear hkk hkt hlk hlt x0 x1 x2 x3 x4 hk q0
              go_wp2_with fail
              refine wp_region_held_drew (S := fun w' => w'.cell? ⟨w.heap.size, 0, none⟩ = some (.int .i64 x.f0) ∧ w'.cell? ⟨w.heap.size, 3, none⟩ = some (.slice (some ad) x.f3.length c3) ∧ w'.cell? (ad.add i) = some (.int .i64 (k : Int)) ∧ Hid (Kx w x A2 c2 (some ad) c3 A4 c4 w')) (by kernel_rfl) (HQ.out.below (below_drew (Below.refl _ _))) (fun hHeld => ?_)
              refine wpAnyH_take (i := 0) (oi := { dst := some 21, op := Op.fieldAddr 28 (Operand.tmp 2) 0, type := 0, pos := "core.go:226", after := #[], guard := none }) (v := ?_) rfl (by kernel_rfl) (by kernel_rfl) (by kernel_rfl) (fun _ _ _ h => h) (Or.inl ⟨by rfl, ?_⟩) (by assumption) ?_
              rotate_left 1
              · intro w hSw; (try dsimp only at hSw); go_simp; (try with_reducible rfl)
              (try simp only [Act.put, List.setIfInBounds_toArray, List.set_cons_zero, List.set_cons_succ])
              refine wpAnyH_take (i := 1) (oi := { dst := some 22, op := Op.load 3 (Operand.tmp 21), type := 3, pos := "core.go:226", after := #[{ on := 0, ground := Ground.data }], guard := none }) (v := ?_) rfl (by kernel_rfl) (by kernel_rfl) (by kernel_rfl) (fun _ _ _ h => h) (Or.inl ⟨by rfl, ?_⟩) (by assumption) ?_
              rotate_left 1
              · intro w hSw; (try dsimp only at hSw); go_simp; (try with_reducible rfl)
              (try simp only [Act.put, List.setIfInBounds_toArray, List.set_cons_zero, List.set_cons_succ])
              refine wpAnyH_take (i := 2) (oi := { dst := some 23, op := Op.binOp BinOp.eql 3 (Operand.tmp 22) (Operand.const (Value.int IntKind.i64 5)) 3, type := 4, pos := "core.go:226", after := #[{ on := 1, ground := Ground.data }], guard := none }) (v := ?_) rfl (by kernel_rfl) (by kernel_rfl) (by kernel_rfl) (fun _ _ _ h => h) (Or.inl ⟨by rfl, ?_⟩) (by assumption) ?_
              rotate_left 1
              · intro w hSw; (try dsimp only at hSw); go_simp; (try with_reducible rfl)
              (try simp only [Act.put, List.setIfInBounds_toArray, List.set_cons_zero, List.set_cons_succ])
              refine wpAnyH_take (i := 3) (oi := { dst := some 24, op := Op.move (Operand.tmp 23), type := 4, pos := "core.go:226", after := #[{ on := 2, ground := Ground.data }], guard := none }) (v := ?_) rfl (by kernel_rfl) (by kernel_rfl) (by kernel_rfl) (fun _ _ _ h => h) (Or.inl ⟨by rfl, ?_⟩) (by assumption) ?_
              rotate_left 1
              · intro w hSw; (try dsimp only at hSw); go_simp; (try with_reducible rfl)
              (try simp only [Act.put, List.setIfInBounds_toArray, List.set_cons_zero, List.set_cons_succ])
              refine wpAnyH_take (i := 4) (oi := { dst := some 25, op := Op.move (Operand.tmp 1), type := 109, pos := "core.go:226", after := #[{ on := 3, ground := Ground.guard }], guard := some (3, true) }) (v := ?_) rfl (by kernel_rfl) (by kernel_rfl) (by kernel_rfl) (fun _ _ _ h => h) (Or.inl ⟨by rfl, ?_⟩) (by assumption) ?_
              rotate_left 1
              · intro w hSw; (try dsimp only at hSw); go_simp; (try with_reducible rfl)
              (try simp only [Act.put, List.setIfInBounds_toArray, List.set_cons_zero, List.set_cons_succ])
              refine wpAnyH_take (i := 5) (oi := { dst := some 26, op := Op.fieldAddr 28 (Operand.tmp 2) 3, type := 0, pos := "core.go:226", after := #[{ on := 3, ground := Ground.guard }], guard := some (3, true) }) (v := ?_) rfl (by kernel_rfl) (by kernel_rfl) (by kernel_rfl) (fun _ _ _ h => h) (Or.inl ⟨by rfl, ?_⟩) (by assumption) ?_
              rotate_left 1
              · intro w hSw; (try dsimp only at hSw); go_simp; (try with_reducible rfl)
              (try simp only [Act.put, List.setIfInBounds_toArray, List.set_cons_zero, List.set_cons_succ])
              refine wpAnyH_take (i := 6) (oi := { dst := some 27, op := Op.load 25 (Operand.tmp 26), type := 25, pos := "core.go:226", after := #[{ on := 5, ground := Ground.data }, { on := 3, ground := Ground.guard }], guard := some (3, true) }) (v := ?_) rfl (by kernel_rfl) (by kernel_rfl) (by kernel_rfl) (fun _ _ _ h => h) (Or.inl ⟨by rfl, ?_⟩) (by assumption) ?_
              rotate_left 1
              · intro w hSw; (try dsimp only at hSw); go_simp; (try with_reducible rfl)
              (try simp only [Act.put, List.setIfInBounds_toArray, List.set_cons_zero, List.set_cons_succ])
              refine wpAnyH_take (i := 7) (oi := { dst := some 28, op := Op.move (Operand.tmp 6), type := 3, pos := "core.go:226", after := #[{ on := 3, ground := Ground.guard }], guard := some (3, true) }) (v := ?_) rfl (by kernel_rfl) (by kernel_rfl) (by kernel_rfl) (fun _ _ _ h => h) (Or.inl ⟨by rfl, ?_⟩) (by assumption) ?_
              rotate_left 1
              · intro w hSw; (try dsimp only at hSw); go_simp; (try with_reducible rfl)
              (try simp only [Act.put, List.setIfInBounds_toArray, List.set_cons_zero, List.set_cons_succ])
              refine wpAnyH_take (i := 8) (oi := { dst := some 29, op := Op.indexAddr 25 (Operand.tmp 27) (Operand.tmp 28), type := 0, pos := "core.go:226", after := #[{ on := 6, ground := Ground.data }, { on := 7, ground := Ground.data }, { on := 3, ground := Ground.guard }], guard := some (3, true) }) (v := ?_) rfl (by kernel_rfl) (by kernel_rfl) (by kernel_rfl) (fun _ _ _ h => h) (Or.inl ⟨by rfl, ?_⟩) (by assumption) ?_
              rotate_left 1
              · intro w hSw; (try dsimp only at hSw); go_simp; (try with_reducible rfl)
              (try simp only [Act.put, List.setIfInBounds_toArray, List.set_cons_zero, List.set_cons_succ])
              refine wpAnyH_take (i := 9) (oi := { dst := some 30, op := Op.load 3 (Operand.tmp 29), type := 3, pos := "core.go:226", after := #[{ on := 8, ground := Ground.data }, { on := 3, ground := Ground.guard }], guard := some (3, true) }) (v := ?_) rfl (by kernel_rfl) (by kernel_rfl) (by kernel_rfl) (fun _ _ _ h => h) (Or.inl ⟨by rfl, ?_⟩) (by assumption) ?_
              rotate_left 1
              · intro w hSw; (try dsimp only at hSw); go_simp; (try with_reducible rfl)
              (try simp only [Act.put, List.setIfInBounds_toArray, List.set_cons_zero, List.set_cons_succ])
              refine wpAnyH_ready (rs := [10]) (by kernel_rfl) (by simp) ?_
              refine AllReadyH.cons (o := { dst := some 31, op := Op.call { callee := Callee.value (Operand.tmp 25), args := #[Operand.tmp 30], argTypes := #[3] }, type := 28, pos := "core.go:226", after := #[{ on := 4, ground := Ground.data }, { on := 9, ground := Ground.data }, { on := 3, ground := Ground.chain }, { on := 3, ground := Ground.guard }], guard := some (3, true) }) rfl (fun K hK => ?_) AllReadyH.nil
              go_simp
              (go_at_call 72; refine (kid_arm HKT HR HG (show Kq w x A2 (some ad) A4 c2 c3 c4 ad i (k : Int) _ from ‹_ ∧ _ ∧ _ ∧ Hid (Kx w x A2 c2 (some ad) c3 A4 c4 _)›)).mono ?_; rintro e wn ⟨B2, d2, B3, d3, B4, d4, rfl, hNew⟩)
              refine hK.out _ _ (hNew) (fun hHeld => ?_)
              clear hK K
              (try simp only [Act.put, List.setIfInBounds_toArray, List.set_cons_zero, List.set_cons_succ])
              refine wpAnyH_take (i := 11) (oi := { dst := some 32, op := Op.field 28 (Operand.tmp 31) 0, type := 3, pos := "core.go:226", after := #[{ on := 10, ground := Ground.data }, { on := 3, ground := Ground.guard }], guard := some (3, true) }) (v := ?_) rfl (by kernel_rfl) (by kernel_rfl) (by kernel_rfl) (fun _ _ _ h => h) (Or.inl ⟨by rfl, ?_⟩) (by assumption) ?_
              rotate_left 1
              · intro w hSw; (try dsimp only at hSw); go_simp; (try with_reducible rfl)
              (try simp only [Act.put, List.setIfInBounds_toArray, List.set_cons_zero, List.set_cons_succ])
              refine wpAnyH_take (i := 12) (oi := { dst := some 33, op := Op.binOp BinOp.neq 3 (Operand.tmp 32) (Operand.const (Value.int IntKind.i64 2)) 3, type := 4, pos := "core.go:226", after := #[{ on := 11, ground := Ground.data }, { on := 3, ground := Ground.guard }], guard := some (3, true) }) (v := ?_) rfl (by kernel_rfl) (by kernel_rfl) (by kernel_rfl) (fun _ _ _ h => h) (Or.inl ⟨by rfl, ?_⟩) (by assumption) ?_
              rotate_left 1
              · intro w hSw; (try dsimp only at hSw); go_simp; (try with_reducible rfl)
              (try simp only [Act.put, List.setIfInBounds_toArray, List.set_cons_zero, List.set_cons_succ])
              refine wpAnyH_take (i := 13) (oi := { dst := some 34, op := Op.pick (Operand.tmp 24) (Operand.tmp 33) (Operand.const (Value.bool false)), type := 4, pos := "core.go:226", after := #[{ on := 3, ground := Ground.data }, { on := 12, ground := Ground.data }], guard := none }) (v := ?_) rfl (by kernel_rfl) (by kernel_rfl) (by kernel_rfl) (fun _ _ _ h => h) (Or.inl ⟨by rfl, ?_⟩) (by assumption) ?_
              rotate_left 1
              · intro w hSw; (try dsimp only at hSw); go_simp; (try with_reducible rfl)
              (try simp only [Act.put, List.setIfInBounds_toArray, List.set_cons_zero, List.set_cons_succ])
              refine wpAnyH_take (i := 14) (oi := { dst := some 35, op := Op.move (Operand.tmp 34), type := 4, pos := "core.go:226", after := #[{ on := 13, ground := Ground.data }, { on := 10, ground := Ground.chain }], guard := none }) (v := ?_) rfl (by kernel_rfl) (by kernel_rfl) (by kernel_rfl) (fun _ _ _ h => h) (Or.inl ⟨by rfl, ?_⟩) (by assumption) ?_
              rotate_left 1
              · intro w hSw; (try dsimp only at hSw); go_simp; (try with_reducible rfl)
              (try simp only [Act.put, List.setIfInBounds_toArray, List.set_cons_zero, List.set_cons_succ])
              refine wpAnyH_take (i := 15) (oi := { dst := some 36, op := Op.fieldAddr 28 (Operand.tmp 2) 0, type := 0, pos := "core.go:226", after := #[{ on := 14, ground := Ground.guard }], guard := some (14, false) }) (v := ?_) rfl (by kernel_rfl) (by kernel_rfl) (by kernel_rfl) (fun _ _ _ h => h) (Or.inl ⟨by rfl, ?_⟩) (by assumption) ?_
              rotate_left 1
              · intro w hSw; (try dsimp only at hSw); go_simp; (try with_reducible rfl)
              (try simp only [Act.put, List.setIfInBounds_toArray, List.set_cons_zero, List.set_cons_succ])
              refine wpAnyH_take (i := 16) (oi := { dst := some 37, op := Op.load 3 (Operand.tmp 36), type := 3, pos := "core.go:226", after := #[{ on := 15, ground := Ground.data }, { on := 14, ground := Ground.guard }], guard := some (14, false) }) (v := ?_) rfl (by kernel_rfl) (by kernel_rfl) (by kernel_rfl) (fun _ _ _ h => h) (Or.inl ⟨by rfl, ?_⟩) (by assumption) ?_
              rotate_left 1
              · intro w hSw; (try dsimp only at hSw); go_simp; (try with_reducible rfl)
              (try simp only [Act.put, List.setIfInBounds_toArray, List.set_cons_zero, List.set_cons_succ])
              refine wpAnyH_take (i := 17) (oi := { dst := some 38, op := Op.binOp BinOp.eql 3 (Operand.tmp 37) (Operand.const (Value.int IntKind.i64 9)) 3, type := 4, pos := "core.go:226", after := #[{ on := 16, ground := Ground.data }, { on := 14, ground := Ground.guard }], guard := some (14, false) }) (v := ?_) rfl (by kernel_rfl) (by kernel_rfl) (by kernel_rfl) (fun _ _ _ h => h) (Or.inl ⟨by rfl, ?_⟩) (by assumption) ?_
              rotate_left 1
              · intro w hSw; (try dsimp only at hSw); go_simp; (try with_reducible rfl)
              (try simp only [Act.put, List.setIfInBounds_toArray, List.set_cons_zero, List.set_cons_succ])
              refine wpAnyH_take (i := 18) (oi := { dst := some 39, op := Op.move (Operand.tmp 38), type := 4, pos := "core.go:226", after := #[{ on := 17, ground := Ground.data }, { on := 14, ground := Ground.chain }, { on := 14, ground := Ground.guard }], guard := some (14, false) }) (v := ?_) rfl (by kernel_rfl) (by kernel_rfl) (by kernel_rfl) (fun _ _ _ h => h) (Or.inl ⟨by rfl, ?_⟩) (by assumption) ?_
              rotate_left 1
              · intro w hSw; (try dsimp only at hSw); go_simp; (try with_reducible rfl)
              (try simp only [Act.put, List.setIfInBounds_toArray, List.set_cons_zero, List.set_cons_succ])
              refine wpAnyH_take (i := 19) (oi := { dst := some 40, op := Op.move (Operand.tmp 6), type := 3, pos := "core.go:226", after := #[{ on := 18, ground := Ground.guard }], guard := some (18, true) }) (v := undef) rfl (by kernel_rfl) (by kernel_rfl) (by kernel_rfl) (fun _ _ _ h => h) (Or.inr ⟨by kernel_rfl, rfl⟩) (by assumption) ?_
              (try simp only [Act.put, List.setIfInBounds_toArray, List.set_cons_zero, List.set_cons_succ])
              refine wpAnyH_take (i := 20) (oi := { dst := some 41, op := Op.binOp BinOp.gtr 3 (Operand.tmp 40) (Operand.const (Value.int IntKind.i64 0)) 3, type := 4, pos := "core.go:226", after := #[{ on := 19, ground := Ground.data }, { on := 18, ground := Ground.guard }], guard := some (18, true) }) (v := undef) rfl (by kernel_rfl) (by kernel_rfl) (by kernel_rfl) (fun _ _ _ h => h) (Or.inr ⟨by kernel_rfl, rfl⟩) (by assumption) ?_
              (try simp only [Act.put, List.setIfInBounds_toArray, List.set_cons_zero, List.set_cons_succ])
              refine wpAnyH_take (i := 21) (oi := { dst := some 42, op := Op.pick (Operand.tmp 39) (Operand.tmp 41) (Operand.const (Value.bool false)), type := 4, pos := "core.go:226", after := #[{ on := 18, ground := Ground.data }, { on := 20, ground := Ground.data }, { on := 14, ground := Ground.guard }], guard := some (14, false) }) (v := ?_) rfl (by kernel_rfl) (by kernel_rfl) (by kernel_rfl) (fun _ _ _ h => h) (Or.inl ⟨by rfl, ?_⟩) (by assumption) ?_
              rotate_left 1
              · intro w hSw; (try dsimp only at hSw); go_simp; (try with_reducible rfl)
              (try simp only [Act.put, List.setIfInBounds_toArray, List.set_cons_zero, List.set_cons_succ])
              refine wpAnyH_take (i := 22) (oi := { dst := some 43, op := Op.move (Operand.tmp 42), type := 4, pos := "core.go:226", after := #[{ on := 21, ground := Ground.data }, { on := 18, ground := Ground.chain }, { on := 14, ground := Ground.guard }], guard := some (14, false) }) (v := ?_) rfl (by kernel_rfl) (by kernel_rfl) (by kernel_rfl) (fun _ _ _ h => h) (Or.inl ⟨by rfl, ?_⟩) (by assumption) ?_
              rotate_left 1
              · intro w hSw; (try dsimp only at hSw); go_simp; (try with_reducible rfl)
              (try simp only [Act.put, List.setIfInBounds_toArray, List.set_cons_zero, List.set_cons_succ])
              refine wpAnyH_take (i := 23) (oi := { dst := some 44, op := Op.fieldAddr 28 (Operand.tmp 2) 2, type := 0, pos := "core.go:226", after := #[{ on := 22, ground := Ground.guard }], guard := some (22, true) }) (v := undef) rfl (by kernel_rfl) (by kernel_rfl) (by kernel_rfl) (fun _ _ _ h => h) (Or.inr ⟨by kernel_rfl, rfl⟩) (by assumption) ?_
              (try simp only [Act.put, List.setIfInBounds_toArray, List.set_cons_zero, List.set_cons_succ])
              refine wpAnyH_take (i := 24) (oi := { dst := some 45, op := Op.load 25 (Operand.tmp 44), type := 25, pos := "core.go:226", after := #[{ on := 23, ground := Ground.data }, { on := 22, ground := Ground.guard }], guard := some (22, true) }) (v := undef) rfl (by kernel_rfl) (by kernel_rfl) (by kernel_rfl) (fun _ _ _ h => h) (Or.inr ⟨by kernel_rfl, rfl⟩) (by assumption) ?_
              (try simp only [Act.put, List.setIfInBounds_toArray, List.set_cons_zero, List.set_cons_succ])
              refine wpAnyH_take (i := 25) (oi := { dst := some 46, op := Op.move (Operand.tmp 6), type := 3, pos := "core.go:226", after := #[{ on := 22, ground := Ground.guard }], guard := some (22, true) }) (v := undef) rfl (by kernel_rfl) (by kernel_rfl) (by kernel_rfl) (fun _ _ _ h => h) (Or.inr ⟨by kernel_rfl, rfl⟩) (by assumption) ?_
              (try simp only [Act.put, List.setIfInBounds_toArray, List.set_cons_zero, List.set_cons_succ])
              refine wpAnyH_take (i := 26) (oi := { dst := some 47, op := Op.binOp BinOp.sub 3 (Operand.tmp 46) (Operand.const (Value.int IntKind.i64 1)) 3, type := 3, pos := "core.go:226", after := #[{ on := 25, ground := Ground.data }, { on := 22, ground := Ground.guard }], guard := some (22, true) }) (v := undef) rfl (by kernel_rfl) (by kernel_rfl) (by kernel_rfl) (fun _ _ _ h => h) (Or.inr ⟨by kernel_rfl, rfl⟩) (by assumption) ?_
              (try simp only [Act.put, List.setIfInBounds_toArray, List.set_cons_zero, List.set_cons_succ])
              refine wpAnyH_take (i := 27) (oi := { dst := some 48, op := Op.indexAddr 25 (Operand.tmp 45) (Operand.tmp 47), type := 0, pos := "core.go:226", after := #[{ on := 24, ground := Ground.data }, { on := 26, ground := Ground.data }, { on := 22, ground := Ground.guard }], guard := some (22, true) }) (v := undef) rfl (by kernel_rfl) (by kernel_rfl) (by kernel_rfl) (fun _ _ _ h => h) (Or.inr ⟨by kernel_rfl, rfl⟩) (by assumption) ?_
              (try simp only [Act.put, List.setIfInBounds_toArray, List.set_cons_zero, List.set_cons_succ])
              refine wpAnyH_take (i := 28) (oi := { dst := some 49, op := Op.load 3 (Operand.tmp 48), type := 3, pos := "core.go:226", after := #[{ on := 27, ground := Ground.data }, { on := 22, ground := Ground.guard }], guard := some (22, true) }) (v := undef) rfl (by kernel_rfl) (by kernel_rfl) (by kernel_rfl) (fun _ _ _ h => h) (Or.inr ⟨by kernel_rfl, rfl⟩) (by assumption) ?_
              (try simp only [Act.put, List.setIfInBounds_toArray, List.set_cons_zero, List.set_cons_succ])
              refine wpAnyH_take (i := 29) (oi := { dst := some 50, op := Op.fieldAddr 28 (Operand.tmp 2) 2, type := 0, pos := "core.go:226", after := #[{ on := 22, ground := Ground.guard }], guard := some (22, true) }) (v := undef) rfl (by kernel_rfl) (by kernel_rfl) (by kernel_rfl) (fun _ _ _ h => h) (Or.inr ⟨by kernel_rfl, rfl⟩) (by assumption) ?_
              (try simp only [Act.put, List.setIfInBounds_toArray, List.set_cons_zero, List.set_cons_succ])
              refine wpAnyH_take (i := 30) (oi := { dst := some 51, op := Op.load 25 (Operand.tmp 50), type := 25, pos := "core.go:226", after := #[{ on := 29, ground := Ground.data }, { on := 22, ground := Ground.guard }], guard := some (22, true) }) (v := undef) rfl (by kernel_rfl) (by kernel_rfl) (by kernel_rfl) (fun _ _ _ h => h) (Or.inr ⟨by kernel_rfl, rfl⟩) (by assumption) ?_
              (try simp only [Act.put, List.setIfInBounds_toArray, List.set_cons_zero, List.set_cons_succ])
              refine wpAnyH_take (i := 31) (oi := { dst := some 52, op := Op.move (Operand.tmp 6), type := 3, pos := "core.go:226", after := #[{ on := 22, ground := Ground.guard }], guard := some (22, true) }) (v := undef) rfl (by kernel_rfl) (by kernel_rfl) (by kernel_rfl) (fun _ _ _ h => h) (Or.inr ⟨by kernel_rfl, rfl⟩) (by assumption) ?_
              (try simp only [Act.put, List.setIfInBounds_toArray, List.set_cons_zero, List.set_cons_succ])
              refine wpAnyH_take (i := 32) (oi := { dst := some 53, op := Op.indexAddr 25 (Operand.tmp 51) (Operand.tmp 52), type := 0, pos := "core.go:226", after := #[{ on := 30, ground := Ground.data }, { on := 31, ground := Ground.data }, { on := 22, ground := Ground.guard }], guard := some (22, true) }) (v := undef) rfl (by kernel_rfl) (by kernel_rfl) (by kernel_rfl) (fun _ _ _ h => h) (Or.inr ⟨by kernel_rfl, rfl⟩) (by assumption) ?_
              (try simp only [Act.put, List.setIfInBounds_toArray, List.set_cons_zero, List.set_cons_succ])
              refine wpAnyH_take (i := 33) (oi := { dst := some 54, op := Op.load 3 (Operand.tmp 53), type := 3, pos := "core.go:226", after := #[{ on := 32, ground := Ground.data }, { on := 22, ground := Ground.guard }], guard := some (22, true) }) (v := undef) rfl (by kernel_rfl) (by kernel_rfl) (by kernel_rfl) (fun _ _ _ h => h) (Or.inr ⟨by kernel_rfl, rfl⟩) (by assumption) ?_
              (try simp only [Act.put, List.setIfInBounds_toArray, List.set_cons_zero, List.set_cons_succ])
              refine wpAnyH_take (i := 34) (oi := { dst := some 55, op := Op.binOp BinOp.geq 3 (Operand.tmp 49) (Operand.tmp 54) 3, type := 4, pos := "core.go:226", after := #[{ on := 28, ground := Ground.data }, { on := 33, ground := Ground.data }, { on := 22, ground := Ground.guard }], guard := some (22, true) }) (v := undef) rfl (by kernel_rfl) (by kernel_rfl) (by kernel_rfl) (fun _ _ _ h => h) (Or.inr ⟨by kernel_rfl, rfl⟩) (by assumption) ?_
              (try simp only [Act.put, List.setIfInBounds_toArray, List.set_cons_zero, List.set_cons_succ])
              refine wpAnyH_take (i := 35) (oi := { dst := some 56, op := Op.pick (Operand.tmp 43) (Operand.tmp 55) (Operand.const (Value.bool false)), type := 4, pos := "core.go:226", after := #[{ on := 22, ground := Ground.data }, { on := 34, ground := Ground.data }, { on := 14, ground := Ground.guard }], guard := some (14, false) }) (v := ?_) rfl (by kernel_rfl) (by kernel_rfl) (by kernel_rfl) (fun _ _ _ h => h) (Or.inl ⟨by rfl, ?_⟩) (by assumption) ?_
              rotate_left 1
              · intro w hSw; (try dsimp only at hSw); go_simp; (try with_reducible rfl)
              (try simp only [Act.put, List.setIfInBounds_toArray, List.set_cons_zero, List.set_cons_succ])
              refine wpAnyH_take (i := 36) (oi := { dst := some 57, op := Op.pick (Operand.tmp 35) (Operand.const (Value.bool true)) (Operand.tmp 56), type := 4, pos := "core.go:226", after := #[{ on := 14, ground := Ground.data }, { on := 35, ground := Ground.data }], guard := none }) (v := ?_) rfl (by kernel_rfl) (by kernel_rfl) (by kernel_rfl) (fun _ _ _ h => h) (Or.inl ⟨by rfl, ?_⟩) (by assumption) ?_
              rotate_left 1
              · intro w hSw; (try dsimp only at hSw); go_simp; (try with_reducible rfl)
              (try simp only [Act.put, List.setIfInBounds_toArray, List.set_cons_zero, List.set_cons_succ])
              refine wpAnyH_done (by kernel_rfl) ?_ _
              go_wp2_with fail
              go_roundg (gk - 1)
              case measure => have := hi.out; have := HI.out; omega
              case rel => exact ⟨i + 1, Go.Lib.hid (by have := hi.out; have := HI.out; omega), by go_num, Go.Lib.hid (HGO.out (by rw [HKD.out]; rfl)), hNew.2.2.2⟩
            · have z1 : ((rd_T28 t (k : Int)).f0 == 2) = false := beq_eq_false_iff_ne.2 hz
              have z2 : ((rd_T28 t (k : Int)).f0 != 2) = true := by simp [hz]
              rw [decide_eq_true (show (rd_T28 t (k : Int)).f0 ≠ 2 from hz)] at HKD
              clear hz
              clear hkk hkt hlk hlt x0 x1 x2 x3 x4 hk q0
              go_wp2_with fail
              refine wp_region_held_drew (S := fun w' => w'.cell? ⟨w.heap.size, 0, none⟩ = some (.int .i64 x.f0) ∧ w'.cell? ⟨w.heap.size, 3, none⟩ = some (.slice (some ad) x.f3.length c3) ∧ w'.cell? (ad.add i) = some (.int .i64 (k : Int)) ∧ Hid (Kx w x A2 c2 (some ad) c3 A4 c4 w')) (by kernel_rfl) (HQ.out.below (below_drew (Below.refl _ _))) (fun hHeld => ?_)
              refine wpAnyH_take (i := 0) (oi := { dst := some 21, op := Op.fieldAddr 28 (Operand.tmp 2) 0, type := 0, pos := "core.go:226", after := #[], guard := none }) (v := ?_) rfl (by kernel_rfl) (by kernel_rfl) (by kernel_rfl) (fun _ _ _ h => h) (Or.inl ⟨by rfl, ?_⟩) (by assumption) ?_
              rotate_left 1
              · intro w hSw; (try dsimp only at hSw); go_simp; (try with_reducible rfl)
              (try simp only [Act.put, List.setIfInBounds_toArray, List.set_cons_zero, List.set_cons_succ])
              refine wpAnyH_take (i := 1) (oi := { dst := some 22, op := Op.load 3 (Operand.tmp 21), type := 3, pos := "core.go:226", after := #[{ on := 0, ground := Ground.data }], guard := none }) (v := ?_) rfl (by kernel_rfl) (by kernel_rfl) (by kernel_rfl) (fun _ _ _ h => h) (Or.inl ⟨by rfl, ?_⟩) (by assumption) ?_
              rotate_left 1
              · intro w hSw; (try dsimp only at hSw); go_simp; (try with_reducible rfl)
              (try simp only [Act.put, List.setIfInBounds_toArray, List.set_cons_zero, List.set_cons_succ])
              refine wpAnyH_take (i := 2) (oi := { dst := some 23, op := Op.binOp BinOp.eql 3 (Operand.tmp 22) (Operand.const (Value.int IntKind.i64 5)) 3, type := 4, pos := "core.go:226", after := #[{ on := 1, ground := Ground.data }], guard := none }) (v := ?_) rfl (by kernel_rfl) (by kernel_rfl) (by kernel_rfl) (fun _ _ _ h => h) (Or.inl ⟨by rfl, ?_⟩) (by assumption) ?_
              rotate_left 1
              · intro w hSw; (try dsimp only at hSw); go_simp; (try with_reducible rfl)
              (try simp only [Act.put, List.setIfInBounds_toArray, List.set_cons_zero, List.set_cons_succ])
              refine wpAnyH_take (i := 3) (oi := { dst := some 24, op := Op.move (Operand.tmp 23), type := 4, pos := "core.go:226", after := #[{ on := 2, ground := Ground.data }], guard := none }) (v := ?_) rfl (by kernel_rfl) (by kernel_rfl) (by kernel_rfl) (fun _ _ _ h => h) (Or.inl ⟨by rfl, ?_⟩) (by assumption) ?_
              rotate_left 1
              · intro w hSw; (try dsimp only at hSw); go_simp; (try with_reducible rfl)
              (try simp only [Act.put, List.setIfInBounds_toArray, List.set_cons_zero, List.set_cons_succ])
              refine wpAnyH_take (i := 4) (oi := { dst := some 25, op := Op.move (Operand.tmp 1), type := 109, pos := "core.go:226", after := #[{ on := 3, ground := Ground.guard }], guard := some (3, true) }) (v := ?_) rfl (by kernel_rfl) (by kernel_rfl) (by kernel_rfl) (fun _ _ _ h => h) (Or.inl ⟨by rfl, ?_⟩) (by assumption) ?_
              rotate_left 1
              · intro w hSw; (try dsimp only at hSw); go_simp; (try with_reducible rfl)
              (try simp only [Act.put, List.setIfInBounds_toArray, List.set_cons_zero, List.set_cons_succ])
              refine wpAnyH_take (i := 5) (oi := { dst := some 26, op := Op.fieldAddr 28 (Operand.tmp 2) 3, type := 0, pos := "core.go:226", after := #[{ on := 3, ground := Ground.guard }], guard := some (3, true) }) (v := ?_) rfl (by kernel_rfl) (by kernel_rfl) (by kernel_rfl) (fun _ _ _ h => h) (Or.inl ⟨by rfl, ?_⟩) (by assumption) ?_
              rotate_left 1
              · intro w hSw; (try dsimp only at hSw); go_simp; (try with_reducible rfl)
              (try simp only [Act.put, List.setIfInBounds_toArray, List.set_cons_zero, List.set_cons_succ])
              refine wpAnyH_take (i := 6) (oi := { dst := some 27, op := Op.load 25 (Operand.tmp 26), type := 25, pos := "core.go:226", after := #[{ on := 5, ground := Ground.data }, { on := 3, ground := Ground.guard }], guard := some (3, true) }) (v := ?_) rfl (by kernel_rfl) (by kernel_rfl) (by kernel_rfl) (fun _ _ _ h => h) (Or.inl ⟨by rfl, ?_⟩) (by assumption) ?_
              rotate_left 1
              · intro w hSw; (try dsimp only at hSw); go_simp; (try with_reducible rfl)
              (try simp only [Act.put, List.setIfInBounds_toArray, List.set_cons_zero, List.set_cons_succ])
              refine wpAnyH_take (i := 7) (oi := { dst := some 28, op := Op.move (Operand.tmp 6), type := 3, pos := "core.go:226", after := #[{ on := 3, ground := Ground.guard }], guard := some (3, true) }) (v := ?_) rfl (by kernel_rfl) (by kernel_rfl) (by kernel_rfl) (fun _ _ _ h => h) (Or.inl ⟨by rfl, ?_⟩) (by assumption) ?_
              rotate_left 1
              · intro w hSw; (try dsimp only at hSw); go_simp; (try with_reducible rfl)
              (try simp only [Act.put, List.setIfInBounds_toArray, List.set_cons_zero, List.set_cons_succ])
              refine wpAnyH_take (i := 8) (oi := { dst := some 29, op := Op.indexAddr 25 (Operand.tmp 27) (Operand.tmp 28), type := 0, pos := "core.go:226", after := #[{ on := 6, ground := Ground.data }, { on := 7, ground := Ground.data }, { on := 3, ground := Ground.guard }], guard := some (3, true) }) (v := ?_) rfl (by kernel_rfl) (by kernel_rfl) (by kernel_rfl) (fun _ _ _ h => h) (Or.inl ⟨by rfl, ?_⟩) (by assumption) ?_
              rotate_left 1
              · intro w hSw; (try dsimp only at hSw); go_simp; (try with_reducible rfl)
              (try simp only [Act.put, List.setIfInBounds_toArray, List.set_cons_zero, List.set_cons_succ])
              refine wpAnyH_take (i := 9) (oi := { dst := some 30, op := Op.load 3 (Operand.tmp 29), type := 3, pos := "core.go:226", after := #[{ on := 8, ground := Ground.data }, { on := 3, ground := Ground.guard }], guard := some (3, true) }) (v := ?_) rfl (by kernel_rfl) (by kernel_rfl) (by kernel_rfl) (fun _ _ _ h => h) (Or.inl ⟨by rfl, ?_⟩) (by assumption) ?_
              rotate_left 1
              · intro w hSw; (try dsimp only at hSw); go_simp; (try with_reducible rfl)
              (try simp only [Act.put, List.setIfInBounds_toArray, List.set_cons_zero, List.set_cons_succ])
              refine wpAnyH_ready (rs := [10]) (by kernel_rfl) (by simp) ?_
              refine AllReadyH.cons (o := { dst := some 31, op := Op.call { callee := Callee.value (Operand.tmp 25), args := #[Operand.tmp 30], argTypes := #[3] }, type := 28, pos := "core.go:226", after := #[{ on := 4, ground := Ground.data }, { on := 9, ground := Ground.data }, { on := 3, ground := Ground.chain }, { on := 3, ground := Ground.guard }], guard := some (3, true) }) rfl (fun K hK => ?_) AllReadyH.nil
              go_simp
              (go_at_call 72; refine (kid_arm HKT HR HG (show Kq w x A2 (some ad) A4 c2 c3 c4 ad i (k : Int) _ from ‹_ ∧ _ ∧ _ ∧ Hid (Kx w x A2 c2 (some ad) c3 A4 c4 _)›)).mono ?_; rintro e wn ⟨B2, d2, B3, d3, B4, d4, rfl, hNew⟩)
              refine hK.out _ _ (hNew) (fun hHeld => ?_)
              clear hK K
              (try simp only [Act.put, List.setIfInBounds_toArray, List.set_cons_zero, List.set_cons_succ])
              refine wpAnyH_take (i := 11) (oi := { dst := some 32, op := Op.field 28 (Operand.tmp 31) 0, type := 3, pos := "core.go:226", after := #[{ on := 10, ground := Ground.data }, { on := 3, ground := Ground.guard }], guard := some (3, true) }) (v := ?_) rfl (by kernel_rfl) (by kernel_rfl) (by kernel_rfl) (fun _ _ _ h => h) (Or.inl ⟨by rfl, ?_⟩) (by assumption) ?_
              rotate_left 1
              · intro w hSw; (try dsimp only at hSw); go_simp; (try with_reducible rfl)
              (try simp only [Act.put, List.setIfInBounds_toArray, List.set_cons_zero, List.set_cons_succ])
              refine wpAnyH_take (i := 12) (oi := { dst := some 33, op := Op.binOp BinOp.neq 3 (Operand.tmp 32) (Operand.const (Value.int IntKind.i64 2)) 3, type := 4, pos := "core.go:226", after := #[{ on := 11, ground := Ground.data }, { on := 3, ground := Ground.guard }], guard := some (3, true) }) (v := ?_) rfl (by kernel_rfl) (by kernel_rfl) (by kernel_rfl) (fun _ _ _ h => h) (Or.inl ⟨by rfl, ?_⟩) (by assumption) ?_
              rotate_left 1
              · intro w hSw; (try dsimp only at hSw); go_simp; (try with_reducible rfl)
              (try simp only [Act.put, List.setIfInBounds_toArray, List.set_cons_zero, List.set_cons_succ])
              refine wpAnyH_take (i := 13) (oi := { dst := some 34, op := Op.pick (Operand.tmp 24) (Operand.tmp 33) (Operand.const (Value.bool false)), type := 4, pos := "core.go:226", after := #[{ on := 3, ground := Ground.data }, { on := 12, ground := Ground.data }], guard := none }) (v := ?_) rfl (by kernel_rfl) (by kernel_rfl) (by kernel_rfl) (fun _ _ _ h => h) (Or.inl ⟨by rfl, ?_⟩) (by assumption) ?_
              rotate_left 1
              · intro w hSw; (try dsimp only at hSw); go_simp; (try with_reducible rfl)
              (try simp only [Act.put, List.setIfInBounds_toArray, List.set_cons_zero, List.set_cons_succ])
              refine wpAnyH_take (i := 14) (oi := { dst := some 35, op := Op.move (Operand.tmp 34), type := 4, pos := "core.go:226", after := #[{ on := 13, ground := Ground.data }, { on := 10, ground := Ground.chain }], guard := none }) (v := ?_) rfl (by kernel_rfl) (by kernel_rfl) (by kernel_rfl) (fun _ _ _ h => h) (Or.inl ⟨by rfl, ?_⟩) (by assumption) ?_
              rotate_left 1
              · intro w hSw; (try dsimp only at hSw); go_simp; (try with_reducible rfl)
              (try simp only [Act.put, List.setIfInBounds_toArray, List.set_cons_zero, List.set_cons_succ])
              refine wpAnyH_take (i := 15) (oi := { dst := some 36, op := Op.fieldAddr 28 (Operand.tmp 2) 0, type := 0, pos := "core.go:226", after := #[{ on := 14, ground := Ground.guard }], guard := some (14, false) }) (v := undef) rfl (by kernel_rfl) (by kernel_rfl) (by kernel_rfl) (fun _ _ _ h => h) (Or.inr ⟨by kernel_rfl, rfl⟩) (by assumption) ?_
              (try simp only [Act.put, List.setIfInBounds_toArray, List.set_cons_zero, List.set_cons_succ])
              refine wpAnyH_take (i := 16) (oi := { dst := some 37, op := Op.load 3 (Operand.tmp 36), type := 3, pos := "core.go:226", after := #[{ on := 15, ground := Ground.data }, { on := 14, ground := Ground.guard }], guard := some (14, false) }) (v := undef) rfl (by kernel_rfl) (by kernel_rfl) (by kernel_rfl) (fun _ _ _ h => h) (Or.inr ⟨by kernel_rfl, rfl⟩) (by assumption) ?_
              (try simp only [Act.put, List.setIfInBounds_toArray, List.set_cons_zero, List.set_cons_succ])
              refine wpAnyH_take (i := 17) (oi := { dst := some 38, op := Op.binOp BinOp.eql 3 (Operand.tmp 37) (Operand.const (Value.int IntKind.i64 9)) 3, type := 4, pos := "core.go:226", after := #[{ on := 16, ground := Ground.data }, { on := 14, ground := Ground.guard }], guard := some (14, false) }) (v := undef) rfl (by kernel_rfl) (by kernel_rfl) (by kernel_rfl) (fun _ _ _ h => h) (Or.inr ⟨by kernel_rfl, rfl⟩) (by assumption) ?_
              (try simp only [Act.put, List.setIfInBounds_toArray, List.set_cons_zero, List.set_cons_succ])
              refine wpAnyH_take (i := 18) (oi := { dst := some 39, op := Op.move (Operand.tmp 38), type := 4, pos := "core.go:226", after := #[{ on := 17, ground := Ground.data }, { on := 14, ground := Ground.chain }, { on := 14, ground := Ground.guard }], guard := some (14, false) }) (v := undef) rfl (by kernel_rfl) (by kernel_rfl) (by kernel_rfl) (fun _ _ _ h => h) (Or.inr ⟨by kernel_rfl, rfl⟩) (by assumption) ?_
              (try simp only [Act.put, List.setIfInBounds_toArray, List.set_cons_zero, List.set_cons_succ])
              refine wpAnyH_take (i := 19) (oi := { dst := some 40, op := Op.move (Operand.tmp 6), type := 3, pos := "core.go:226", after := #[{ on := 18, ground := Ground.guard }], guard := some (18, true) }) (v := undef) rfl (by kernel_rfl) (by kernel_rfl) (by kernel_rfl) (fun _ _ _ h => h) (Or.inr ⟨by kernel_rfl, rfl⟩) (by assumption) ?_
              (try simp only [Act.put, List.setIfInBounds_toArray, List.set_cons_zero, List.set_cons_succ])
              refine wpAnyH_take (i := 20) (oi := { dst := some 41, op := Op.binOp BinOp.gtr 3 (Operand.tmp 40) (Operand.const (Value.int IntKind.i64 0)) 3, type := 4, pos := "core.go:226", after := #[{ on := 19, ground := Ground.data }, { on := 18, ground := Ground.guard }], guard := some (18, true) }) (v := undef) rfl (by kernel_rfl) (by kernel_rfl) (by kernel_rfl) (fun _ _ _ h => h) (Or.inr ⟨by kernel_rfl, rfl⟩) (by assumption) ?_
              (try simp only [Act.put, List.setIfInBounds_toArray, List.set_cons_zero, List.set_cons_succ])
              refine wpAnyH_take (i := 21) (oi := { dst := some 42, op := Op.pick (Operand.tmp 39) (Operand.tmp 41) (Operand.const (Value.bool false)), type := 4, pos := "core.go:226", after := #[{ on := 18, ground := Ground.data }, { on := 20, ground := Ground.data }, { on := 14, ground := Ground.guard }], guard := some (14, false) }) (v := undef) rfl (by kernel_rfl) (by kernel_rfl) (by kernel_rfl) (fun _ _ _ h => h) (Or.inr ⟨by kernel_rfl, rfl⟩) (by assumption) ?_
              (try simp only [Act.put, List.setIfInBounds_toArray, List.set_cons_zero, List.set_cons_succ])
              refine wpAnyH_take (i := 22) (oi := { dst := some 43, op := Op.move (Operand.tmp 42), type := 4, pos := "core.go:226", after := #[{ on := 21, ground := Ground.data }, { on := 18, ground := Ground.chain }, { on := 14, ground := Ground.guard }], guard := some (14, false) }) (v := undef) rfl (by kernel_rfl) (by kernel_rfl) (by kernel_rfl) (fun _ _ _ h => h) (Or.inr ⟨by kernel_rfl, rfl⟩) (by assumption) ?_
              (try simp only [Act.put, List.setIfInBounds_toArray, List.set_cons_zero, List.set_cons_succ])
              refine wpAnyH_take (i := 23) (oi := { dst := some 44, op := Op.fieldAddr 28 (Operand.tmp 2) 2, type := 0, pos := "core.go:226", after := #[{ on := 22, ground := Ground.guard }], guard := some (22, true) }) (v := undef) rfl (by kernel_rfl) (by kernel_rfl) (by kernel_rfl) (fun _ _ _ h => h) (Or.inr ⟨by kernel_rfl, rfl⟩) (by assumption) ?_
              (try simp only [Act.put, List.setIfInBounds_toArray, List.set_cons_zero, List.set_cons_succ])
              refine wpAnyH_take (i := 24) (oi := { dst := some 45, op := Op.load 25 (Operand.tmp 44), type := 25, pos := "core.go:226", after := #[{ on := 23, ground := Ground.data }, { on := 22, ground := Ground.guard }], guard := some (22, true) }) (v := undef) rfl (by kernel_rfl) (by kernel_rfl) (by kernel_rfl) (fun _ _ _ h => h) (Or.inr ⟨by kernel_rfl, rfl⟩) (by assumption) ?_
              (try simp only [Act.put, List.setIfInBounds_toArray, List.set_cons_zero, List.set_cons_succ])
              refine wpAnyH_take (i := 25) (oi := { dst := some 46, op := Op.move (Operand.tmp 6), type := 3, pos := "core.go:226", after := #[{ on := 22, ground := Ground.guard }], guard := some (22, true) }) (v := undef) rfl (by kernel_rfl) (by kernel_rfl) (by kernel_rfl) (fun _ _ _ h => h) (Or.inr ⟨by kernel_rfl, rfl⟩) (by assumption) ?_
              (try simp only [Act.put, List.setIfInBounds_toArray, List.set_cons_zero, List.set_cons_succ])
              refine wpAnyH_take (i := 26) (oi := { dst := some 47, op := Op.binOp BinOp.sub 3 (Operand.tmp 46) (Operand.const (Value.int IntKind.i64 1)) 3, type := 3, pos := "core.go:226", after := #[{ on := 25, ground := Ground.data }, { on := 22, ground := Ground.guard }], guard := some (22, true) }) (v := undef) rfl (by kernel_rfl) (by kernel_rfl) (by kernel_rfl) (fun _ _ _ h => h) (Or.inr ⟨by kernel_rfl, rfl⟩) (by assumption) ?_
              (try simp only [Act.put, List.setIfInBounds_toArray, List.set_cons_zero, List.set_cons_succ])
              refine wpAnyH_take (i := 27) (oi := { dst := some 48, op := Op.indexAddr 25 (Operand.tmp 45) (Operand.tmp 47), type := 0, pos := "core.go:226", after := #[{ on := 24, ground := Ground.data }, { on := 26, ground := Ground.data }, { on := 22, ground := Ground.guard }], guard := some (22, true) }) (v := undef) rfl (by kernel_rfl) (by kernel_rfl) (by kernel_rfl) (fun _ _ _ h => h) (Or.inr ⟨by kernel_rfl, rfl⟩) (by assumption) ?_
              (try simp only [Act.put, List.setIfInBounds_toArray, List.set_cons_zero, List.set_cons_succ])
              refine wpAnyH_take (i := 28) (oi := { dst := some 49, op := Op.load 3 (Operand.tmp 48), type := 3, pos := "core.go:226", after := #[{ on := 27, ground := Ground.data }, { on := 22, ground := Ground.guard }], guard := some (22, true) }) (v := undef) rfl (by kernel_rfl) (by kernel_rfl) (by kernel_rfl) (fun _ _ _ h => h) (Or.inr ⟨by kernel_rfl, rfl⟩) (by assumption) ?_
              (try simp only [Act.put, List.setIfInBounds_toArray, List.set_cons_zero, List.set_cons_succ])
              refine wpAnyH_take (i := 29) (oi := { dst := some 50, op := Op.fieldAddr 28 (Operand.tmp 2) 2, type := 0, pos := "core.go:226", after := #[{ on := 22, ground := Ground.guard }], guard := some (22, true) }) (v := undef) rfl (by kernel_rfl) (by kernel_rfl) (by kernel_rfl) (fun _ _ _ h => h) (Or.inr ⟨by kernel_rfl, rfl⟩) (by assumption) ?_
              (try simp only [Act.put, List.setIfInBounds_toArray, List.set_cons_zero, List.set_cons_succ])
              refine wpAnyH_take (i := 30) (oi := { dst := some 51, op := Op.load 25 (Operand.tmp 50), type := 25, pos := "core.go:226", after := #[{ on := 29, ground := Ground.data }, { on := 22, ground := Ground.guard }], guard := some (22, true) }) (v := undef) rfl (by kernel_rfl) (by kernel_rfl) (by kernel_rfl) (fun _ _ _ h => h) (Or.inr ⟨by kernel_rfl, rfl⟩) (by assumption) ?_
              (try simp only [Act.put, List.setIfInBounds_toArray, List.set_cons_zero, List.set_cons_succ])
              refine wpAnyH_take (i := 31) (oi := { dst := some 52, op := Op.move (Operand.tmp 6), type := 3, pos := "core.go:226", after := #[{ on := 22, ground := Ground.guard }], guard := some (22, true) }) (v := undef) rfl (by kernel_rfl) (by kernel_rfl) (by kernel_rfl) (fun _ _ _ h => h) (Or.inr ⟨by kernel_rfl, rfl⟩) (by assumption) ?_
              (try simp only [Act.put, List.setIfInBounds_toArray, List.set_cons_zero, List.set_cons_succ])
              refine wpAnyH_take (i := 32) (oi := { dst := some 53, op := Op.indexAddr 25 (Operand.tmp 51) (Operand.tmp 52), type := 0, pos := "core.go:226", after := #[{ on := 30, ground := Ground.data }, { on := 31, ground := Ground.data }, { on := 22, ground := Ground.guard }], guard := some (22, true) }) (v := undef) rfl (by kernel_rfl) (by kernel_rfl) (by kernel_rfl) (fun _ _ _ h => h) (Or.inr ⟨by kernel_rfl, rfl⟩) (by assumption) ?_
              (try simp only [Act.put, List.setIfInBounds_toArray, List.set_cons_zero, List.set_cons_succ])
              refine wpAnyH_take (i := 33) (oi := { dst := some 54, op := Op.load 3 (Operand.tmp 53), type := 3, pos := "core.go:226", after := #[{ on := 32, ground := Ground.data }, { on := 22, ground := Ground.guard }], guard := some (22, true) }) (v := undef) rfl (by kernel_rfl) (by kernel_rfl) (by kernel_rfl) (fun _ _ _ h => h) (Or.inr ⟨by kernel_rfl, rfl⟩) (by assumption) ?_
              (try simp only [Act.put, List.setIfInBounds_toArray, List.set_cons_zero, List.set_cons_succ])
              refine wpAnyH_take (i := 34) (oi := { dst := some 55, op := Op.binOp BinOp.geq 3 (Operand.tmp 49) (Operand.tmp 54) 3, type := 4, pos := "core.go:226", after := #[{ on := 28, ground := Ground.data }, { on := 33, ground := Ground.data }, { on := 22, ground := Ground.guard }], guard := some (22, true) }) (v := undef) rfl (by kernel_rfl) (by kernel_rfl) (by kernel_rfl) (fun _ _ _ h => h) (Or.inr ⟨by kernel_rfl, rfl⟩) (by assumption) ?_
              (try simp only [Act.put, List.setIfInBounds_toArray, List.set_cons_zero, List.set_cons_succ])
              refine wpAnyH_take (i := 35) (oi := { dst := some 56, op := Op.pick (Operand.tmp 43) (Operand.tmp 55) (Operand.const (Value.bool false)), type := 4, pos := "core.go:226", after := #[{ on := 22, ground := Ground.data }, { on := 34, ground := Ground.data }, { on := 14, ground := Ground.guard }], guard := some (14, false) }) (v := undef) rfl (by kernel_rfl) (by kernel_rfl) (by kernel_rfl) (fun _ _ _ h => h) (Or.inr ⟨by kernel_rfl, rfl⟩) (by assumption) ?_
              (try simp only [Act.put, List.setIfInBounds_toArray, List.set_cons_zero, List.set_cons_succ])
              refine wpAnyH_take (i := 36) (oi := { dst := some 57, op := Op.pick (Operand.tmp 35) (Operand.const (Value.bool true)) (Operand.tmp 56), type := 4, pos := "core.go:226", after := #[{ on := 14, ground := Ground.data }, { on := 35, ground := Ground.data }], guard := none }) (v := ?_) rfl (by kernel_rfl) (by kernel_rfl) (by kernel_rfl) (fun _ _ _ h => h) (Or.inl ⟨by rfl, ?_⟩) (by assumption) ?_
              rotate_left 1
              · intro w hSw; (try dsimp only at hSw); go_simp; (try with_reducible rfl)
              (try simp only [Act.put, List.setIfInBounds_toArray, List.set_cons_zero, List.set_cons_succ])
              refine wpAnyH_done (by kernel_rfl) ?_ _
              have HV := Go.Lib.hid (NoP.mk (HBAD.out (by rw [HKD.out]; rfl)) hNew.2.2.2.out.b)
              go_wp2_with fail
              go_ret
              exact HV.out
          · by_cases h9 : x.f0 = 9
            · have e5 : (x.f0 == 5) = false := beq_eq_false_iff_ne.2 (by omega)
              have e9 : (x.f0 == 9) = true := beq_iff_eq.2 h9
              rw [decide_eq_false h5, decide_eq_true h9, Bool.false_and, Bool.true_and, Bool.false_or] at HKD
              clear h5 h9
              by_cases h0 : 0 < i
              · have h0' : decide ((0 : Int) < (i : Int)) = true := decide_eq_true (by omega)
                have h0'' : decide (0 < i) = true := decide_eq_true h0
                have hp0 : (0 : Int) ≤ (i : Int) - 1 := by omega
                have hp1 : (i : Int) - 1 < (x.f2.length : Int) := by omega
                have hp2 : (1 : Int) ≤ (i : Int) := by omega
                have hpn : ((i : Int) - 1).toNat = i - 1 := by omega
                obtain ⟨ad, e_, q0⟩ := Kd.at_int (Kd.C_below HN.out.g2 hk.out.b) (i : Int) hi0 hlt'
                cases e_
                obtain ⟨ad', e_, q1⟩ := Kd.at_int (Kd.C_below HN.out.g2 hk.out.b) ((i : Int) - 1) hp0 hp1
                cases e_
                rw [Int.toNat_natCast] at q0
                rw [decide_eq_true h0, Bool.true_and] at HKD
                have hwr : IntKind.i64.wrap ((i : Int) - 1) = (i : Int) - 1 := IntWalk.i64_in _ (by omega)
                generalize rd x.f2 (i : Int) = y at q0 HKD
                generalize rd x.f2 ((i : Int) - 1) = z at q1 HKD
                rw [hpn] at q1
                clear h0 hlt
                by_cases hyz : y ≤ z
                · have d1 : decide (z ≥ y) = true := decide_eq_true hyz
                  have d2 : decide (y ≤ z) = true := decide_eq_true hyz
                  rw [d2] at HKD
                  clear hyz
                  go_wp2_with fail
                  go_quiet (fail)
                  go_wp2_with fail
                  go_ret
                  exact NoP.mk (HBAD.out (by rw [HKD.out]; rfl)) (below_dn hk.out.b _)
                · have d1 : decide (z ≥ y) = false := decide_eq_false hyz
                  have d2 : decide (y ≤ z) = false := decide_eq_false hyz
                  rw [d2] at HKD
                  clear hyz
                  go_wp2_with fail
                  go_quiet (fail)
                  go_wp2_with fail
                  go_roundg (gk - 1)
                  case measure => have := hi.out; have := HI.out; omega
                  case rel => exact ⟨i + 1, Go.Lib.hid (by have := hi.out; have := HI.out; omega), by go_num, Go.Lib.hid (HGO.out (by rw [HKD.out]; rfl)), Go.Lib.hid (hk.out.below (below_dn (Below.refl _ _) _))⟩
              · have h0' : decide ((0 : Int) < (i : Int)) = false := decide_eq_false (by omega)
                have h0'' : decide (0 < i) = false := decide_eq_false h0
                rw [decide_eq_false h0, Bool.false_and] at HKD
                clear h0 hlt
                go_wp2_with fail
                go_quiet (fail)
                go_wp2_with fail
                go_roundg (gk - 1)
                case measure => have := hi.out; have := HI.out; omega
                case rel => exact ⟨i + 1, Go.Lib.hid (by have := hi.out; have := HI.out; omega), by go_num, Go.Lib.hid (HGO.out (by rw [HKD.out]; rfl)), Go.Lib.hid (hk.out.below (below_dn (Below.refl _ _) _))⟩
            · have e5 : (x.f0 == 5) = false := beq_eq_false_iff_ne.2 h5
              have e9 : (x.f0 == 9) = false := beq_eq_false_iff_ne.2 h9
              rw [decide_eq_false h5, decide_eq_false h9, Bool.false_and, Bool.false_and, Bool.false_or] at HKD
              clear h5 h9 hlt
              go_wp2_with fail
              go_quiet (fail)
              go_wp2_with fail
              go_roundg (gk - 1)
              case measure => have := hi.out; have := HI.out; omega
              case rel => exact ⟨i + 1, Go.Lib.hid (by have := hi.out; have := HI.out; omega), by go_num, Go.Lib.hid (HGO.out (by rw [HKD.out]; rfl)), Go.Lib.hid (hk.out.below (below_dn (Below.refl _ _) _))⟩
        · have hd : decide ((i : Int) < (x.f2.length : Int)) = false := decide_eq_false (by omega)
          have hd2 : decide (i < x.f2.length) = false := decide_eq_false hlt
          have hkb : kidsB t x = true := by
            unfold kidsB; rw [List.all_eq_true]; intro j hj; exact ha.out j (by have := List.mem_range.1 hj; omega)
          have HV := Go.Lib.hid (NoP.mk (t := t) (x := x) (w := w) (v := 0) (by unfold nodeErrP; rw [HSB.out, if_pos rfl, if_pos HNE.out, hkb]; rfl) hk.out.b)
          clear hkb
          clear hlt ha hi
          go_wp2_with fail
          go_ret
          exact HV.out
    · have hb : (numErr x == 0) = false := beq_eq_false_iff_ne.2 hne
      have hb1 : (numErr x != 0) = true := by simp [hne]
      have HV := Go.Lib.hid (NoP.mk (t := t) (x := x) (w := w) (by unfold nodeErrP; rw [HSB.out, if_pos rfl, if_neg hne]) HK2.out.b)
      clear hne
      go_wp2_with fail
      go_ret
      exact HV.out
end Go.Proofs.YtjhinklijopobaaDoor.Co
namespace Go.Proofs.YtjhinklijopobaaDoor.Co
open Go.RowKit Go.Proofs.YtjhinklijopobaaDoor.PCoreChecks Go.Proofs.YtjhinklijopobaaDoorW.PrintWords Go.Proofs.YtjhinklijopobaaDoorW.PrintLast Go.Proofs.YtjhinklijopobaaDoorW.PrintMore
set_option linter.unusedVariables false
set_option linter.unusedSimpArgs false

/-! ### What a node of a tree binds -/
/-- A block with a node of a tree. -/
def Tb (w : World) (b : Nat) (op n : Int) (v2 v3 v4 : Value) : Prop := w.heap[b]? = some (.cells #[.int .i64 op, .int .i64 n, v2, v3, v4] 95 (0, 0))
theorem Tb.cells {w : World} {b : Nat} {op n : Int} {v2 v3 v4 : Value} (h : Tb w b op n v2 v3 v4) : w.cell? ⟨b, 0, none⟩ = some (.int .i64 op) ∧ w.cell? ⟨b, 1, none⟩ = some (.int .i64 n) ∧ w.cell? ⟨b, 2, none⟩ = some v2 ∧ w.cell? ⟨b, 3, none⟩ = some v3 ∧ w.cell? ⟨b, 4, none⟩ = some v4 :=
  ⟨(blk_cell h 0).trans rfl, (blk_cell h 1).trans rfl, (blk_cell h 2).trans rfl, (blk_cell h 3).trans rfl, (blk_cell h 4).trans rfl⟩
theorem Tb.below {w w' : World} {b : Nat} {op n : Int} {v2 v3 v4 : Value} (h : Tb w b op n v2 v3 v4) (hb : Below w.heap.size w w') : Tb w' b op n v2 v3 v4 := blk_below h hb
/-- A row of the call's own while it grows. -/
structure Bo (w : World) (v : Value) (l : List Int) (W : World) : Prop where
  b : Below w.heap.size w W
  own : W.ownsRow w.heap.size 3 1 v l.length (encs (Value.int .i64) l)
theorem Bo.nil (w : World) : Bo w (.slice none 0 0) [] w := ⟨Below.refl _ _, own_nil _ _ _ _⟩
theorem Bo.lift {w W W' : World} {v : Value} {l : List Int} (h : Bo w v l W) (hb : Below W.heap.size W W') : Bo w v l W' := ⟨below_step h.b hb, pw_own_below h.own hb⟩
theorem Bo.row {w W : World} {A : Option Addr} {c : Nat} {l : List Int} (h : Bo w (.slice A l.length c) l W) : RowP l w (.returned (.slice A l.length c)) W := by
  obtain ⟨A1, c1, e, h2, _⟩ := own_reads_of_le (d := (0 : Int)) h.own
  cases e
  exact ⟨A, c, rfl, h2, Kd.C_of_reads (d := 0) (h1 := fun _ => rfl) (own_reads_of' h.own), h.b⟩
theorem RowP.of {l l' : List Int} {w w' : World} {e : Ending} (h : RowP l w e w') (he : l = l') : RowP l' w e w' := he ▸ h
/-- The identifiers that a node binds itself, ahead of its alternatives. -/
def ownB (op : Int) (bs : List Int) : List Int := if op = 2 ∨ op = 4 ∨ op = 5 then bs else []
theorem bindsOf_eq (x : S28) : bindsOf x = ownB x.f0 x.f2 ++ x.f4.flatMap S86.f1 := rfl
theorem ownB_len {op : Int} {bs : List Int} (h : bs.length ≤ 16) : (ownB op bs).length ≤ 16 := by
  unfold ownB; split
  · exact h
  · simp
theorem flatA_snoc (al : List S86) (i : Nat) (h : i < al.length) : (al.take (i + 1)).flatMap S86.f1 = (al.take i).flatMap S86.f1 ++ (al[i]'h).f1 := by
  rw [List.take_succ_eq_append_getElem h, List.flatMap_append, List.flatMap_cons, List.flatMap_nil, List.append_nil]

set_option maxHeartbeats 8000000 in
set_option maxRecDepth 100000 in
theorem binders_calls (x : S28) (hx : Fit x) (b : Nat) (n : Int) (v3 : Value) (A2 A4 : Option Addr) (c2 c4 : Nat) (w : World) (hb : Tb w b x.f0 n (.slice A2 x.f2.length c2) v3 (.slice A4 x.f4.length c4)) (g2 : Kd.C (Kd.int .i64) w A2 x.f2.length x.f2) (g4 : Kd.C k86 w A4 x.f4.length x.f4) :
    Calls Tryd.prog 64 #[.pointer (some ⟨b, 0, none⟩)] w (RowP (bindsOf x) w) := by
  rw [bindsOf_eq]
  obtain ⟨op, n0, bs, ks, al⟩ := x
  simp only at hb g2 g4 ⊢
  have HX := Go.Lib.hid hx
  have HB := Go.Lib.hid hb
  have G2 := Go.Lib.hid (Kd.reads_of_C (d := (0 : Int)) g2)
  have G4 := Go.Lib.hid g4
  have hb9 : (bs.length : Int) ≤ 16 := by have := hx.b; simp only at this; omega
  have ha9 : (al.length : Int) ≤ 4096 := by have := hx.a; simp only at this; omega
  obtain ⟨t0, t1, t2, t3, t4⟩ := hb.cells
  have HB0 := Go.Lib.hid (Bo.nil w)
  have HOL := Go.Lib.hid (ownB_len (op := op) (bs := bs) (by omega))
  clear hx g2 g4 hb
  have h4 : (op = 2 ∨ op = 4 ∨ op = 5) ∨ ¬ (op = 2 ∨ op = 4 ∨ op = 5) := Classical.em _
  rcases h4 with h4 | h4
  rotate_left 1
  · have e2 : (op == 2) = false := beq_eq_false_iff_ne.2 (by omega)
    have e4 : (op == 4) = false := beq_eq_false_iff_ne.2 (by omega)
    have e5 : (op == 5) = false := beq_eq_false_iff_ne.2 (by omega)
    have HL := Go.Lib.hid (show ownB op bs = [] from if_neg h4)
    clear h4
    rw [HL.out, List.nil_append]
    go_enter Tryd.func64, Tryd.ntmps64
    go_wp2_with fail
    have HBO := HB0
    have HL0 := HL
    go_loopg [3, 36] al.length (fun g_ v3 v36 w' => ∃ (i : Nat) (l : List Int) (A : Option Addr) (c : Nat), Hid (i + g_ = al.length) ∧ v3 = .slice A l.length c ∧ v36 = .int .i64 i ∧ Hid (l = (al.take i).flatMap S86.f1) ∧ Hid (l.length ≤ 16 + i * 16) ∧ Hid (Bo w (.slice A l.length c) l w'))
    case atStart => exact ⟨0, [], none, 0, Go.Lib.hid (by omega), rfl, rfl, Go.Lib.hid (by simp), Go.Lib.hid (by simp), HBO⟩
    case round =>
      clear HBO t0 t1 t2 t3 t4
      obtain ⟨i, l, A, c, hi, rfl, rfl, hl, hll, hbo⟩ := hrel
      obtain ⟨wo, hwo⟩ : ∃ wo : World, wo = wr := ⟨_, rfl⟩
      subst hwo
      by_cases hlt : i < al.length
      · have hlt' : (i : Int) < (al.length : Int) := by omega
        have hi0 : (0 : Int) ≤ (i : Int) := by omega
        have HI := Go.Lib.hid hlt
        obtain ⟨ad, A1, c1, e_, p0, p1, q1, q2⟩ := at_T86 G4.out (i : Int) hi0 hlt'
        cases e_
        rw [rdA_nat al i hlt] at p0 p1 q1 q2
        rw [Int.toNat_natCast] at p0 p1
        replace p0 := pw_cell_below hbo.out.b p0
        replace p1 := pw_cell_below hbo.out.b p1
        have HSN := Go.Lib.hid (flatA_snoc al i hlt)
        have HAL := Go.Lib.hid (HX.out.ab _ (List.getElem_mem hlt))
        generalize al[i]'hlt = a at p0 p1 q1 q2 HSN HAL
        have HBX := Go.Lib.hid (hbo.out.lift (below_alloc (Below.refl _ _) (.cells #[.int .i64 a.f0, .slice A1 a.f1.length c1] 86)))
        obtain ⟨y0, y1⟩ := (Bxa.made wo a A1 c1).cells
        have HQ2 := Go.Lib.hid (Kd.reads_of_C (d := (0 : Int)) (Kd.C_below q2 HBX.out.b))
        have ha9' : (a.f1.length : Int) ≤ 16 := by have := HAL.out; omega
        clear hlt q1 q2 hbo
        go_wp2_with ((with_reducible refine gate_builtin (b := .append) (xs := #[.tmp 40, .tmp 42]) rfl ?_); at_builtin; refine print_append_row_of (w0 := w) (Value.int .i64) (0 : Int) w.heap.size rfl (.tmp 40) (.tmp 42) 25 3 (.int .i64 0) 8 rfl Tryd.underlying25 info3 rfl (by decide) (fun _ => rfl) (.slice A l.length c) l a.f1 A1 a.f1.length c1 rfl rfl ?q1 ?q2 ?q3 ?q4 ?q5 ?_; (case q1 => exact HBX.out.own); (case q2 => exact HQ2.out); (case q3 => exact HBX.out.b); (case q4 => exact HBX.out.b.size); (case q5 => have q1_ := hll.out; have q2_ := HAL.out; have q3_ := HI.out; omega); intro v1 w9 ho9 hb9 hg9 hat9; obtain ⟨A9, c9, rfl⟩ := own_slice ho9; have HB9 := Go.Lib.hid (Bo.mk hb9 ho9); clear ho9 hb9 hg9 hat9)
        go_roundg (gk - 1)
        case measure => have := hi.out; have := HI.out; omega
        case rel => exact ⟨i + 1, l ++ a.f1, A9, c9, Go.Lib.hid (by have := hi.out; have := HI.out; omega), by first | rfl | simp, by go_num, Go.Lib.hid (by rw [HSN.out, ← hl.out]), Go.Lib.hid (by rw [List.length_append]; have := hll.out; have := HAL.out; omega), HB9⟩
      · have hd : decide ((i : Int) < (al.length : Int)) = false := decide_eq_false (by omega)
        have hd2 : decide (i < al.length) = false := decide_eq_false hlt
        have HE := hl.out
        rw [List.take_of_length_le (by omega)] at HE
        have HV := Go.Lib.hid (hbo.out.row.of HE)
        clear HE
        clear hlt hl hi hll
        go_wp2_with fail
        go_ret
        exact HV.out
  have HL := Go.Lib.hid (show ownB op bs = bs from if_pos h4)
  rw [HL.out]
  rcases h4 with rfl | rfl | rfl
  all_goals
    go_enter Tryd.func64, Tryd.ntmps64
    go_wp2_with ((with_reducible refine gate_builtin (b := .append) (xs := #[.tmp 25, .tmp 29]) rfl ?_); at_builtin; refine print_append_row_of (w0 := w) (Value.int .i64) (0 : Int) w.heap.size rfl (.tmp 25) (.tmp 29) 25 3 (.int .i64 0) 8 rfl Tryd.underlying25 info3 rfl (by decide) (fun _ => rfl) (.slice none 0 0) [] bs A2 bs.length c2 rfl rfl ?q1 ?q2 ?q3 ?q4 ?q5 ?_; (case q1 => exact HB0.out.own); (case q2 => exact G2.out); (case q3 => exact HB0.out.b); (case q4 => exact HB0.out.b.size); (case q5 => simp; omega); intro v1 w9 ho9 hb9 hg9 hat9; obtain ⟨A9, c9, rfl⟩ := own_slice ho9; have HBO := Go.Lib.hid (Bo.mk hb9 ho9); clear t0 t1 t2 t3 t4; obtain ⟨t0, t1, t2, t3, t4⟩ := (HB.out.below hb9).cells; clear ho9 hb9 hg9 hat9)
    go_loopg [3, 36] al.length (fun g_ v3 v36 w' => ∃ (i : Nat) (l : List Int) (A : Option Addr) (c : Nat), Hid (i + g_ = al.length) ∧ v3 = .slice A l.length c ∧ v36 = .int .i64 i ∧ Hid (l = bs ++ (al.take i).flatMap S86.f1) ∧ Hid (l.length ≤ 16 + i * 16) ∧ Hid (Bo w (.slice A l.length c) l w'))
    case atStart => exact ⟨0, bs, A9, c9, Go.Lib.hid (by omega), (by first | rfl | simp), rfl, Go.Lib.hid (by simp), Go.Lib.hid (by omega), HBO⟩
    case round =>
      clear HBO t0 t1 t2 t3 t4
      obtain ⟨i, l, A, c, hi, rfl, rfl, hl, hll, hbo⟩ := hrel
      obtain ⟨wo, hwo⟩ : ∃ wo : World, wo = wr := ⟨_, rfl⟩
      subst hwo
      by_cases hlt : i < al.length
      · have hlt' : (i : Int) < (al.length : Int) := by omega
        have hi0 : (0 : Int) ≤ (i : Int) := by omega
        have HI := Go.Lib.hid hlt
        obtain ⟨ad, A1, c1, e_, p0, p1, q1, q2⟩ := at_T86 G4.out (i : Int) hi0 hlt'
        cases e_
        rw [rdA_nat al i hlt] at p0 p1 q1 q2
        rw [Int.toNat_natCast] at p0 p1
        replace p0 := pw_cell_below hbo.out.b p0
        replace p1 := pw_cell_below hbo.out.b p1
        have HSN := Go.Lib.hid (flatA_snoc al i hlt)
        have HAL := Go.Lib.hid (HX.out.ab _ (List.getElem_mem hlt))
        generalize al[i]'hlt = a at p0 p1 q1 q2 HSN HAL
        have HBX := Go.Lib.hid (hbo.out.lift (below_alloc (Below.refl _ _) (.cells #[.int .i64 a.f0, .slice A1 a.f1.length c1] 86)))
        obtain ⟨y0, y1⟩ := (Bxa.made wo a A1 c1).cells
        have HQ2 := Go.Lib.hid (Kd.reads_of_C (d := (0 : Int)) (Kd.C_below q2 HBX.out.b))
        have ha9' : (a.f1.length : Int) ≤ 16 := by have := HAL.out; omega
        clear hlt q1 q2 hbo
        go_wp2_with ((with_reducible refine gate_builtin (b := .append) (xs := #[.tmp 40, .tmp 42]) rfl ?_); at_builtin; refine print_append_row_of (w0 := w) (Value.int .i64) (0 : Int) w.heap.size rfl (.tmp 40) (.tmp 42) 25 3 (.int .i64 0) 8 rfl Tryd.underlying25 info3 rfl (by decide) (fun _ => rfl) (.slice A l.length c) l a.f1 A1 a.f1.length c1 rfl rfl ?q1 ?q2 ?q3 ?q4 ?q5 ?_; (case q1 => exact HBX.out.own); (case q2 => exact HQ2.out); (case q3 => exact HBX.out.b); (case q4 => exact HBX.out.b.size); (case q5 => have q1_ := hll.out; have q2_ := HAL.out; have q3_ := HI.out; omega); intro v1 w9 ho9 hb9 hg9 hat9; obtain ⟨A9, c9, rfl⟩ := own_slice ho9; have HB9 := Go.Lib.hid (Bo.mk hb9 ho9); clear ho9 hb9 hg9 hat9)
        go_roundg (gk - 1)
        case measure => have := hi.out; have := HI.out; omega
        case rel => exact ⟨i + 1, l ++ a.f1, A9, c9, Go.Lib.hid (by have := hi.out; have := HI.out; omega), by first | rfl | simp, by go_num, Go.Lib.hid (by rw [HSN.out, ← List.append_assoc, ← hl.out]), Go.Lib.hid (by rw [List.length_append]; have := hll.out; have := HAL.out; omega), HB9⟩
      · have hd : decide ((i : Int) < (al.length : Int)) = false := decide_eq_false (by omega)
        have hd2 : decide (i < al.length) = false := decide_eq_false hlt
        have HE := hl.out
        rw [List.take_of_length_le (by omega)] at HE
        have HV := Go.Lib.hid (hbo.out.row.of HE)
        clear HE
        clear hlt hl hi hll
        go_wp2_with fail
        go_ret
        exact HV.out
end Go.Proofs.YtjhinklijopobaaDoor.Co
namespace Go.Proofs.YtjhinklijopobaaDoor.Co
open Go.RowKit Go.Proofs.YtjhinklijopobaaDoor.PCoreChecks Go.Proofs.YtjhinklijopobaaDoorW.PrintWords Go.Proofs.YtjhinklijopobaaDoorW.PrintLast Go.Proofs.YtjhinklijopobaaDoorW.PrintMore
open Go.Maps (Keyed has size IsMap Tidy)
set_option linter.unusedVariables false
set_option linter.unusedSimpArgs false

/-! ### Maps of numbers -/
theorem kd3 : Keyed Tryd.prog 3 := Maps.int_keyed Tryd.underlying3
theorem zero134 (w : World) : (zeroValue 134).run Tryd.prog w = .ok (.agg #[]) w := by kernel_rfl
theorem zero3 (w : World) : (zeroValue 3).run Tryd.prog w = .ok (.int .i64 0) w := by kernel_rfl
theorem wf64 {z : Int} (h0 : -9223372036854775808 ≤ z) (h1 : z ≤ 9223372036854775807) : (Lit.int .i64 z).wf = true := WalkArith.wf_i64 ⟨h0, h1⟩
theorem key3 {z : Int} (h : (Lit.int .i64 z).wf = true) : keyOf Tryd.prog 3 (.int .i64 z) = some (.int .i64 z) := Maps.keyOf_int_mk Tryd.underlying3 h
theorem lit_inj {a b : Int} (h : (Lit.int .i64 a) = .int .i64 b) : a = b := by injection h

/-- A set of numbers. -/
def Se (w : World) (mb n : Nat) (S : Int → Prop) : Prop := ∃ D : DataW Unit, w.ownsMap Tryd.prog 3 unitElem mb n D ∧ ∀ z : Int, has D (.int .i64 z) = true ↔ S z
theorem Se.made (w : World) : Se (w.alloc (.map #[] 0)) w.heap.size 0 (fun _ => False) := ⟨_, World.ownsMap_made _ _ _ _, fun z => by simp [has]⟩
theorem Se.lt {w : World} {mb n : Nat} {S : Int → Prop} (h : Se w mb n S) : mb < w.heap.size := by obtain ⟨D, h1, _⟩ := h; exact h1.lt
theorem Se.kept {w w' : World} {mb n : Nat} {S : Int → Prop} {row : Option Nat} (h : Se w mb n S) (hg : w.grownBy w' row) (hne : some mb ≠ row) : Se w' mb n S := by obtain ⟨D, h1, h2⟩ := h; exact ⟨D, h1.kept hg hne, h2⟩
theorem Se.below {w w' : World} {mb n : Nat} {S : Int → Prop} (h : Se w mb n S) (hb : Below w.heap.size w w') : Se w' mb n S := h.kept (grown_of_below hb none) (by simp)
theorem Se.mono {w : World} {mb n m : Nat} {S : Int → Prop} (h : Se w mb n S) (hn : n ≤ m) : Se w mb m S := by obtain ⟨D, h1, h2⟩ := h; exact ⟨D, h1.mono hn, h2⟩
theorem Se.congr {w : World} {mb n : Nat} {S T : Int → Prop} (h : Se w mb n S) (he : ∀ z, S z ↔ T z) : Se w mb n T := by obtain ⟨D, h1, h2⟩ := h; exact ⟨D, h1, fun z => (h2 z).trans (he z)⟩
section
variable {ops : Array Oper} {rest : List Oper} {o : Oper} {a : Act} {Q : Exit → Act → World → Prop}
theorem wp_has (w : World) (hg : o.guard = none) (m x : Operand) (hop : o.op = Op.lookup 114 m x true) (mb n : Nat) (S : Int → Prop) (hm : a.eval m = .map (some mb)) (h : Se w mb n S) (z : Int) (hx : a.eval x = .int .i64 z) (hz : (Lit.int .i64 z).wf = true)
    (hK : ∀ b : Bool, (b = true ↔ S z) → wpList Tryd.prog ops Q rest (a.put o.dst (.tuple #[.agg #[], .bool b])) w) : wpList Tryd.prog ops Q (o :: rest) a w := by
  obtain ⟨D, h1, h2⟩ := h
  exact wpList_lookup_own_unit w hg m x 114 hop 3 134 kd3 Tryd.underlying114 (zero134 w) mb n D hm h1 _ _ hx (key3 hz) (hK _ (h2 z))
theorem Se.put {w' : World} {mb n : Nat} {S : Int → Prop} {z : Int} {D : DataW Unit} (hi : IsMap D) (hz : (Lit.int .i64 z).wf = true) (h2 : ∀ y : Int, has D (.int .i64 y) = true ↔ S y) (h : w'.ownsMap Tryd.prog 3 unitElem mb n (D.put (.int .i64 z) (.agg []))) : Se w' mb n (fun y => y = z ∨ S y) := by
  refine ⟨_, h, fun y => ?_⟩
  by_cases e : y = z
  · subst e
    rw [Maps.has_put_same hi (kd3.key (key3 hz))]
    simp
  · rw [Maps.has_put_other (fun h => e (lit_inj h)), h2]
    simp [e]
theorem wp_add (w : World) (hg : o.guard = none) (m x v : Operand) (hop : o.op = Op.mapUpdate 114 m x v) (mb n : Nat) (S : Int → Prop) (hm : a.eval m = .map (some mb)) (h : Se w mb n S) (hn : n < maxLen) (z : Int) (hx : a.eval x = .int .i64 z) (hz : (Lit.int .i64 z).wf = true) (hv : a.eval v = .agg #[])
    (hK : ∀ w', Se w' mb (n + 1) (fun y => y = z ∨ S y) → w.grownBy w' (some mb) → wpList Tryd.prog ops Q rest (a.put o.dst undef) w') : wpList Tryd.prog ops Q (o :: rest) a w := by
  obtain ⟨D, h1, h2⟩ := h
  exact wpList_mapUpdate_own w hg m x v 114 hop 3 134 kd3 Tryd.underlying114 unitElem mb n D hm h1 hn _ _ _ hx hv (key3 hz) (.agg []) [] unitElem_mk (fun w' r1 r2 => hK w' (Se.put h1.isMap hz h2 r1) r2)
end

/-! A map whose keys are identifiers has room. -/
def idz (z : Int) : Prop := 0 ≤ z ∧ z < 1048576
theorem nodup_small : ∀ (n : Nat) (l : List Int), l.Pairwise (fun a b => a ≠ b) → (∀ z ∈ l, 0 ≤ z ∧ z < (n : Int)) → l.length ≤ n := by
  intro n l hd h
  refine count_len n l h (fun k hk => ?_)
  have : l.Nodup := hd
  exact List.nodup_iff_count.1 this _
theorem size_small {D : DataW Unit} (ht : Tidy D) (hk : ∀ k, has D k = true → ∃ z, idz z ∧ k = .int .i64 z) (hkey : ∀ p, (∃ es, D = .map es ∧ p ∈ es) → has D p.1 = true) : size D ≤ 1048576 := by
  obtain ⟨es, rfl, hp⟩ := ht
  have hz : ∀ p ∈ es, ∃ z, idz z ∧ p.1 = .int .i64 z := fun p hpm => hk _ (hkey p ⟨es, rfl, hpm⟩)
  have hnum : ∀ p ∈ es, p.1 = .int .i64 (match p.1 with | .int _ z => z | _ => 0) := fun p hpm => by
    obtain ⟨z, _, e⟩ := hz p hpm
    rw [e]
  have h1 : (es.map (fun p => match p.1 with | .int _ z => z | _ => 0)).length ≤ 1048576 := by
    refine nodup_small 1048576 _ ?_ ?_
    · rw [List.pairwise_map]
      refine hp.imp_of_mem (fun {a b} ha hb hab e => hab ?_)
      rw [hnum a ha, hnum b hb, e]
    · intro z hzm
      obtain ⟨p, hpm, rfl⟩ := List.mem_map.1 hzm
      obtain ⟨z, hz1, e⟩ := hz p hpm
      rw [e]
      exact hz1
  rw [List.length_map] at h1
  exact h1
theorem own_small {R : Value → Option (DataW Unit × List MemPlace)} {w : World} {mb n : Nat} {D : DataW Unit} (h : w.ownsMap Tryd.prog 3 R mb n D) (hk : ∀ k, has D k = true → ∃ z, idz z ∧ k = .int .i64 z) : w.ownsMap Tryd.prog 3 R mb 1048576 D := by
  obtain ⟨es0, hD0, -, hkl⟩ := h.entries kd3
  have hs := size_small (h.tidy kd3) hk (fun p hp => by
    obtain ⟨es, e, hm⟩ := hp
    rw [hD0] at e
    injection e with e
    subst e
    rw [hD0, Maps.has_eq, List.any_eq_true]
    exact ⟨p, hm, by
      have h1 := hkl p hm
      exact WideAt.sameKey_self h1⟩)
  obtain ⟨es, clock, hb, F, _, hD⟩ := h
  refine ⟨es, clock, hb, F, ?_, hD⟩
  rw [hD] at hs
  simpa [Maps.size, length_sorted] using hs

/-- A set of identifiers. -/
def So (w : World) (mb : Nat) (S : Int → Prop) : Prop := ∃ D : DataW Unit, w.ownsMap Tryd.prog 3 unitElem mb 1048576 D ∧ (∀ z : Int, has D (.int .i64 z) = true ↔ S z) ∧ ∀ k, has D k = true → ∃ z, idz z ∧ k = .int .i64 z
/-- How often each identifier is bound. -/
def Mi (w : World) (mb : Nat) (f : Int → Int) : Prop := ∃ D : DataW Unit, w.ownsMap Tryd.prog 3 (plainElem Tryd.prog 3) mb 1048576 D ∧ (∀ z : Int, D.atKey (.int .i64 z) (.lit (.int .i64 0)) = .lit (.int .i64 (f z))) ∧ ∀ k, has D k = true → ∃ z, idz z ∧ k = .int .i64 z
theorem So.made (w : World) : So (w.alloc (.map #[] 0)) w.heap.size (fun _ => False) := ⟨_, (World.ownsMap_made _ _ _ _).mono (Nat.zero_le _), fun z => by simp [has], fun k h => by simp [has] at h⟩
theorem Mi.made (w : World) : Mi (w.alloc (.map #[] 0)) w.heap.size (fun _ => 0) := ⟨_, (World.ownsMap_made _ _ _ _).mono (Nat.zero_le _), fun z => rfl, fun k h => by simp [has] at h⟩
theorem So.lt {w : World} {mb : Nat} {S : Int → Prop} (h : So w mb S) : mb < w.heap.size := by obtain ⟨D, h1, _⟩ := h; exact h1.lt
theorem Mi.lt {w : World} {mb : Nat} {f : Int → Int} (h : Mi w mb f) : mb < w.heap.size := by obtain ⟨D, h1, _⟩ := h; exact h1.lt
theorem So.kept {w w' : World} {mb : Nat} {S : Int → Prop} {row : Option Nat} (h : So w mb S) (hg : w.grownBy w' row) (hne : some mb ≠ row) : So w' mb S := by obtain ⟨D, h1, h2⟩ := h; exact ⟨D, h1.kept hg hne, h2⟩
theorem Mi.kept {w w' : World} {mb : Nat} {f : Int → Int} {row : Option Nat} (h : Mi w mb f) (hg : w.grownBy w' row) (hne : some mb ≠ row) : Mi w' mb f := by obtain ⟨D, h1, h2⟩ := h; exact ⟨D, h1.kept hg hne, h2⟩
theorem So.below {w w' : World} {mb : Nat} {S : Int → Prop} (h : So w mb S) (hb : Below w.heap.size w w') : So w' mb S := h.kept (grown_of_below hb none) (by simp)
theorem Mi.below {w w' : World} {mb : Nat} {f : Int → Int} (h : Mi w mb f) (hb : Below w.heap.size w w') : Mi w' mb f := h.kept (grown_of_below hb none) (by simp)
theorem So.congr {w : World} {mb : Nat} {S T : Int → Prop} (h : So w mb S) (he : ∀ z, S z ↔ T z) : So w mb T := by obtain ⟨D, h1, h2, h3⟩ := h; exact ⟨D, h1, fun z => (h2 z).trans (he z), h3⟩
theorem Mi.congr {w : World} {mb : Nat} {f g : Int → Int} (h : Mi w mb f) (he : ∀ z, f z = g z) : Mi w mb g := by
  have : f = g := funext he
  subst this; exact h
theorem keys_put {D : DataW Unit} {z : Int} (hz : idz z) (hk : ∀ k, has D k = true → ∃ z, idz z ∧ k = .int .i64 z) (d : DataW Unit) : ∀ k, has (D.put (.int .i64 z) d) k = true → ∃ z, idz z ∧ k = .int .i64 z := by
  intro k h
  by_cases e : k = .int .i64 z
  · exact ⟨z, hz, e⟩
  · rw [Maps.has_put_other e] at h
    exact hk k h
theorem idz_wf {z : Int} (hz : idz z) : (Lit.int .i64 z).wf = true := wf64 (by have := hz.1; omega) (by have := hz.2; omega)
/-- One number more at an identifier. -/
def upd (f : Int → Int) (z c : Int) : Int → Int := fun y => if y = z then c else f y
section
variable {ops : Array Oper} {rest : List Oper} {o : Oper} {a : Act} {Q : Exit → Act → World → Prop}
theorem wp_out (w : World) (hg : o.guard = none) (m x v : Operand) (hop : o.op = Op.mapUpdate 114 m x v) (mb : Nat) (S : Int → Prop) (hm : a.eval m = .map (some mb)) (h : So w mb S) (z : Int) (hx : a.eval x = .int .i64 z) (hz : idz z) (hv : a.eval v = .agg #[])
    (hK : ∀ w', So w' mb (fun y => y = z ∨ S y) → w.grownBy w' (some mb) → wpList Tryd.prog ops Q rest (a.put o.dst undef) w') : wpList Tryd.prog ops Q (o :: rest) a w := by
  obtain ⟨D, h1, h2, h3⟩ := h
  refine wpList_mapUpdate_own w hg m x v 114 hop 3 134 kd3 Tryd.underlying114 unitElem mb 1048576 D hm h1 (by unfold maxLen; omega) _ _ _ hx hv (key3 (idz_wf hz)) (.agg []) [] unitElem_mk (fun w' r1 r2 => hK w' ?_ r2)
  have h4 := keys_put hz h3 (.agg [])
  obtain ⟨D', r1', r2'⟩ := Se.put h1.isMap (idz_wf hz) h2 r1
  refine ⟨_, own_small r1 h4, fun y => ?_, h4⟩
  by_cases e : y = z
  · subst e
    rw [Maps.has_put_same h1.isMap (kd3.key (key3 (idz_wf hz)))]
    simp
  · rw [Maps.has_put_other (fun h => e (lit_inj h)), h2]
    simp [e]
theorem wp_get (w : World) (hg : o.guard = none) (m x : Operand) (hop : o.op = Op.lookup 99 m x false) (mb : Nat) (f : Int → Int) (hm : a.eval m = .map (some mb)) (h : Mi w mb f) (z : Int) (hx : a.eval x = .int .i64 z) (hz : (Lit.int .i64 z).wf = true)
    (hK : wpList Tryd.prog ops Q rest (a.put o.dst (.int .i64 (f z))) w) : wpList Tryd.prog ops Q (o :: rest) a w := by
  obtain ⟨D, h1, h2, h3⟩ := h
  refine wpList_lookup_own_int w hg m x 99 hop 3 3 .i64 kd3 Tryd.underlying99 Tryd.underlying3 (zero3 w) mb 1048576 D hm h1 _ _ hx (key3 hz) (fun c hc _ => ?_)
  have e : c = f z := by
    have := hc.symm.trans (h2 z)
    injection this with this
    exact lit_inj this
  rw [e]; exact hK
theorem wp_set (w : World) (hg : o.guard = none) (m x v : Operand) (hop : o.op = Op.mapUpdate 99 m x v) (mb : Nat) (f : Int → Int) (hm : a.eval m = .map (some mb)) (h : Mi w mb f) (z c : Int) (hx : a.eval x = .int .i64 z) (hz : idz z) (hv : a.eval v = .int .i64 c) (hc : (Lit.int .i64 c).wf = true)
    (hK : ∀ w', Mi w' mb (upd f z c) → w.grownBy w' (some mb) → wpList Tryd.prog ops Q rest (a.put o.dst undef) w') : wpList Tryd.prog ops Q (o :: rest) a w := by
  obtain ⟨D, h1, h2, h3⟩ := h
  refine wpList_mapUpdate_own w hg m x v 99 hop 3 3 kd3 Tryd.underlying99 (plainElem Tryd.prog 3) mb 1048576 D hm h1 (by unfold maxLen; omega) _ _ _ hx hv (key3 (idz_wf hz)) (.lit (.int .i64 c)) [] (plainElem_int Tryd.underlying3 hc) (fun w' r1 r2 => hK w' ?_ r2)
  have h4 := keys_put hz h3 (.lit (.int .i64 c))
  refine ⟨_, own_small r1 h4, fun y => ?_, h4⟩
  unfold upd
  by_cases e : y = z
  · subst e
    rw [Maps.atKey_put_same h1.isMap (kd3.key (key3 (idz_wf hz))), if_pos rfl]
  · rw [Maps.atKey_put_other (fun h => e (lit_inj h)), h2, if_neg e]
end
end Go.Proofs.YtjhinklijopobaaDoor.Co
namespace Go.Proofs.YtjhinklijopobaaDoor.Co
open Go.RowKit Go.Proofs.YtjhinklijopobaaDoor.PCoreChecks Go.Proofs.YtjhinklijopobaaDoorW.PrintWords Go.Proofs.YtjhinklijopobaaDoorW.PrintLast Go.Proofs.YtjhinklijopobaaDoorW.PrintMore
set_option linter.unusedVariables false
set_option linter.unusedSimpArgs false

/-! ### Identifiers bound twice -/
theorem dupB_iff (l : List Int) : dupB l = true ↔ ¬ l.Nodup := by
  unfold dupB
  rw [List.any_eq_true]
  constructor
  · rintro ⟨i, hi, h⟩ hd
    have hi' := List.mem_range.1 hi
    have h2 := of_decide_eq_true h
    rw [rd_nat l i hi'] at h2
    obtain ⟨j, hj, e⟩ := List.mem_iff_getElem.1 h2
    rw [List.length_take] at hj
    rw [List.getElem_take] at e
    exact List.pairwise_iff_getElem.1 (List.nodup_iff_pairwise_ne.1 hd) j i (by omega) hi' (by omega) e
  · intro hd
    refine Classical.byContradiction fun hn => hd ?_
    rw [List.nodup_iff_pairwise_ne, List.pairwise_iff_getElem]
    intro i j hi hj hij e
    refine hn ⟨j, List.mem_range.2 hj, decide_eq_true ?_⟩
    rw [rd_nat l j hj, ← e]
    exact List.mem_iff_getElem.2 ⟨i, by rw [List.length_take]; omega, by rw [List.getElem_take]⟩
theorem dup_hit {l p q : List Int} {z : Int} (hl : l = p ++ z :: q) (hz : z ∈ p) : dupB l = true := by
  rw [dupB_iff, hl]
  intro h
  exact (List.nodup_append.1 h).2.2 z hz z (by simp) rfl
theorem dup_no {l : List Int} (h : l.Nodup) : dupB l = false := by
  cases e : dupB l with
  | false => rfl
  | true => exact absurd h ((dupB_iff l).1 e)
theorem nodup_snoc {p : List Int} {z : Int} (h : p.Nodup) (hz : z ∉ p) : (p ++ [z]).Nodup := by
  rw [List.nodup_append]
  exact ⟨h, by simp, fun a ha b hb e => by rw [List.mem_singleton] at hb; subst hb; subst e; exact hz ha⟩
theorem bool_false {b : Bool} {p : Prop} (h : b = true ↔ p) (hn : ¬ p) : b = false := by
  cases b with
  | false => rfl
  | true => exact absurd (h.1 rfl) hn
/-- Each cell that reads reads on. -/
def Stay (w w' : World) : Prop := ∀ a v, w.cell? a = some v → w'.cell? a = some v
theorem Stay.of_below {w w' : World} (hb : Below w.heap.size w w') : Stay w w' := fun a v h => pw_cell_below hb h
theorem Stay.trans {w w1 w2 : World} (h : Stay w w1) (k : Stay w1 w2) : Stay w w2 := fun a v hc => k a v (h a v hc)
theorem Stay.of_map {w w' : World} {mb : Nat} {es : Array MapEntry} {clock : Nat} (hm : w.heap[mb]? = some (.map es clock)) (hg : w.grownBy w' (some mb)) : Stay w w' := fun a v h => by
  have hlt := World.block_lt_of_cell? w a h
  by_cases e : a.block = mb
  · exfalso
    unfold World.cell? at h
    rw [e, hm] at h
    cases h
  · rw [World.cell?_of_block (hg.block _ hlt (by simpa using e))]
    exact h
theorem Se.stay {w w' : World} {mb n : Nat} {S : Int → Prop} (h : Se w mb n S) (hg : w.grownBy w' (some mb)) : Stay w w' := by
  obtain ⟨D, ⟨es, clock, hb, _⟩, _⟩ := h
  exact Stay.of_map hb hg
theorem C_stay {w w' : World} {A : Option Addr} {n : Nat} {xs : List Int} (h : Kd.C (Kd.int .i64) w A n xs) (hs : Stay w w') : Kd.C (Kd.int .i64) w' A n xs :=
  ⟨h.1, h.2.1, fun hn => by
    obtain ⟨ad, e, hc⟩ := h.2.2 hn
    refine ⟨ad, e, fun j p hj => ?_⟩
    obtain ⟨c, hl, hk, hcell⟩ := hc j p hj
    exact ⟨c, hl, hk, fun i u hu => hs _ _ (hcell i u hu)⟩⟩
/-- What is seen so far. -/
structure Tw (w W : World) (l : List Int) : Prop where
  b : Below w.heap.size w W
  s : Se W w.heap.size l.length (fun z => z ∈ l)
theorem Tw.start (w : World) : Tw w (w.alloc (.map #[] 0)) [] := ⟨below_alloc (Below.refl _ _) _, (Se.made w).congr (by simp)⟩
theorem Tw.lift {w W W' : World} {l : List Int} (h : Tw w W l) (hb : Below W.heap.size W W') : Tw w W' l := ⟨below_step h.b hb, h.s.below hb⟩
theorem Tw.add {w W W' : World} {l : List Int} {z : Int} (h : Tw w W l) (hs : Se W' w.heap.size (l.length + 1) (fun y => y = z ∨ y ∈ l)) (hg : W.grownBy W' (some w.heap.size)) : Tw w W' (l ++ [z]) :=
  ⟨h.b.grown hg h.b.size (fun k hk => by cases hk; exact Nat.le_refl _), by
    rw [List.length_append, List.length_singleton]
    exact hs.congr (fun y => by simp [or_comm])⟩
def TwP (t : List S28) (params : List Int) (w : World) (e : Ending) (w' : World) : Prop := e = .returned (.bool (dupB (allB params t))) ∧ Below w.heap.size w w'
theorem TwP.mk {t : List S28} {params : List Int} {w w' : World} {b : Bool} (h : dupB (allB params t) = b) (hb : Below w.heap.size w w') : TwP t params w (.returned (.bool b)) w' := ⟨by rw [h], hb⟩

set_option maxHeartbeats 8000000 in
set_option maxRecDepth 100000 in
theorem twice_calls (t : List S28) (params : List Int) (hn : t.length ≤ 4096) (hf : ∀ x ∈ t, Fit x) (hid : ∀ x ∈ t, ∀ z ∈ bindsOf x, idz z) (hpl : params.length ≤ 1000) (hpw : ∀ z ∈ params, idz z) (A0 Ap : Option Addr) (c0 cp : Nat) (w : World) (hr : Kd.C k28 w A0 t.length t) (hp : Kd.C (Kd.int .i64) w Ap params.length params) :
    Calls Tryd.prog 73 #[.slice A0 t.length c0, .slice Ap params.length cp] w (TwP t params w) := by
  have HR := Go.Lib.hid hr
  have HP := Go.Lib.hid hp
  have HF := Go.Lib.hid hf
  have HID := Go.Lib.hid hid
  have HPW := Go.Lib.hid hpw
  have ht9 : (t.length : Int) ≤ 4096 := by omega
  have hp9 : (params.length : Int) ≤ 1000 := by omega
  have HT0 := Go.Lib.hid (Tw.start w)
  have hmm := @run_makeMap Tryd.prog
  clear hr hp hf hid hpw hn hpl
  go_enter Tryd.func73, Tryd.ntmps73
  go_wp2_with fail
  go_loopg [20] params.length (fun g_ v20 w' => ∃ i : Nat, Hid (i + g_ = params.length) ∧ v20 = .int .i64 i ∧ Hid ((params.take i).Nodup) ∧ Hid (Tw w w' (params.take i)))
  case atStart => exact ⟨0, Go.Lib.hid (by omega), rfl, Go.Lib.hid (by simp), HT0⟩
  case round =>
    clear HT0
    obtain ⟨i, hi, rfl, hnd, htw⟩ := hrel
    obtain ⟨wo, hwo⟩ : ∃ wo : World, wo = wr := ⟨_, rfl⟩
    subst hwo
    by_cases hlt : i < params.length
    · have hlt' : (i : Int) < (params.length : Int) := by omega
      have hi0 : (0 : Int) ≤ (i : Int) := by omega
      have HI := Go.Lib.hid hlt
      obtain ⟨ad, e_, p0⟩ := Kd.at_int (Kd.C_below HP.out htw.out.b) (i : Int) hi0 hlt'
      cases e_
      rw [rd_nat params i hlt, Int.toNat_natCast] at p0
      have HTK := Go.Lib.hid (List.take_succ_eq_append_getElem hlt)
      have HZ := Go.Lib.hid (HPW.out _ (List.getElem_mem hlt))
      have HAL := Go.Lib.hid (show allB params t = params.take i ++ (params[i]'hlt) :: (params.drop (i + 1) ++ t.flatMap bindsOf) by
        unfold allB
        have e := (List.take_append_drop i params).symm
        rw [List.drop_eq_getElem_cons hlt] at e
        conv => lhs; rw [e]
        simp only [List.append_assoc, List.cons_append])
      generalize params[i]'hlt = z at p0 HTK HZ HAL
      have HTB := Go.Lib.hid (htw.out.lift (below_alloc (Below.refl _ _) (.cells #[] 134)))
      clear hlt
      by_cases hz : z ∈ params.take i
      · have HV := Go.Lib.hid (TwP.mk (w := w) (dup_hit HAL.out hz) HTB.out.b)
        have HZM := Go.Lib.hid hz
        clear hz
        go_wp2_with (first | (at_lookup; refine wp_has _ rfl _ _ rfl w.heap.size _ _ rfl htw.out.s z rfl (idz_wf HZ.out) ?_; intro bb hbb; obtain rfl : bb = true := hbb.2 HZM.out; clear hbb) | fail)
        go_ret
        exact HV.out
      · have HZM := Go.Lib.hid hz
        clear hz
        have HLL := Go.Lib.hid (show (params.take i).length < maxLen by rw [List.length_take]; unfold maxLen; omega)
        go_wp2_with (first | (at_lookup; refine wp_has _ rfl _ _ rfl w.heap.size _ _ rfl htw.out.s z rfl (idz_wf HZ.out) ?_; intro bb hbb; obtain rfl := bool_false hbb HZM.out; clear hbb) | (at_mapUpdate; refine wp_add _ rfl _ _ _ rfl w.heap.size _ _ rfl HTB.out.s HLL.out z rfl (idz_wf HZ.out) rfl ?_; intro w5 hs5 hg5; have HT5 := Go.Lib.hid (HTB.out.add hs5 hg5); clear hs5 hg5) | fail)
        go_roundg (gk - 1)
        case measure => have := hi.out; have := HI.out; omega
        case rel => exact ⟨i + 1, Go.Lib.hid (by have := hi.out; have := HI.out; omega), by go_num, Go.Lib.hid (by rw [HTK.out]; exact nodup_snoc hnd.out HZM.out), Go.Lib.hid (by rw [HTK.out]; exact HT5.out)⟩
    · have hd : decide ((i : Int) < (params.length : Int)) = false := decide_eq_false (by omega)
      have hd2 : decide (i < params.length) = false := decide_eq_false hlt
      have HND := Go.Lib.hid (show params.Nodup by have h := hnd.out; rw [List.take_of_length_le (by omega)] at h; exact h)
      have HTW := Go.Lib.hid (show Tw w wo params by have h := htw.out; rw [List.take_of_length_le (by omega)] at h; exact h)
      clear hlt hnd htw hi
      go_wp2_with fail
      go_loopg [37] t.length (fun g_ v37 w' => ∃ i : Nat, Hid (i + g_ = t.length) ∧ v37 = .int .i64 i ∧ Hid ((params ++ (t.take i).flatMap bindsOf).Nodup) ∧ Hid (Tw w w' (params ++ (t.take i).flatMap bindsOf)) ∧ Hid ((params ++ (t.take i).flatMap bindsOf).length ≤ 1000 + i * 65552))
      case atStart => exact ⟨0, Go.Lib.hid (by omega), rfl, Go.Lib.hid (by simpa using HND.out), Go.Lib.hid (by simpa using HTW.out), Go.Lib.hid (by simp; omega)⟩
      case round =>
        clear HND HTW
        obtain ⟨i, hi, rfl, hnd, htw, hln⟩ := hrel
        obtain ⟨wo, hwo⟩ : ∃ wo : World, wo = wr := ⟨_, rfl⟩
        subst hwo
        by_cases hlt : i < t.length
        · have hlt' : (i : Int) < (t.length : Int) := by omega
          have hi0 : (0 : Int) ≤ (i : Int) := by omega
          have HI := Go.Lib.hid hlt
          obtain ⟨ad, A2, c2, A3, c3, A4, c4, e_, p0, p1, p2, p3, p4, l2, g2, l3, g3, l4, g4⟩ := at_T28 HR.out (i : Int) hi0 hlt'
          cases e_
          rw [rdT_nat t i hlt] at p0 p1 p2 p3 p4 l2 g2 l3 g3 l4 g4
          rw [Int.toNat_natCast] at p0 p1 p2 p3 p4
          replace p0 := pw_cell_below htw.out.b p0
          replace p1 := pw_cell_below htw.out.b p1
          replace p2 := pw_cell_below htw.out.b p2
          replace p3 := pw_cell_below htw.out.b p3
          replace p4 := pw_cell_below htw.out.b p4
          have HFT := Go.Lib.hid (HF.out _ (List.getElem_mem hlt))
          have HIX := Go.Lib.hid (HID.out _ (List.getElem_mem hlt))
          have HSN := Go.Lib.hid (flatB_snoc t i hlt)
          have HAL := Go.Lib.hid (show allB params t = (params ++ (t.take i).flatMap bindsOf) ++ (bindsOf (t[i]'hlt) ++ (t.drop (i + 1)).flatMap bindsOf) by
            unfold allB
            have e := (List.take_append_drop i t).symm
            rw [List.drop_eq_getElem_cons hlt] at e
            conv => lhs; rw [e]
            rw [List.flatMap_append, List.flatMap_cons, List.append_assoc])
          generalize t[i]'hlt = x at p0 p1 p2 p3 p4 l2 g2 l3 g3 l4 g4 HFT HIX HSN HAL
          have HBL := Go.Lib.hid (bindsOf_len HFT.out)
          generalize hse : params ++ (t.take i).flatMap bindsOf = seen at hnd htw hln HAL
          have HSE := Go.Lib.hid hse
          clear hse
          obtain ⟨ga, hga⟩ : ∃ ga : Nat, ga = gk := ⟨_, rfl⟩
          subst hga
          have HBX := Go.Lib.hid (below_alloc (below_alloc (Below.refl wo.heap.size wo) (.cells #[.int .i64 x.f0, .int .i64 x.f1, .slice A2 x.f2.length c2, .slice A3 x.f3.length c3, .slice A4 x.f4.length c4] 28)) (.cells #[.int .i64 x.f0, .int .i64 0, .slice A2 x.f2.length c2, .slice none 0 0, .slice A4 x.f4.length c4] 95))
          have HTX := Go.Lib.hid (htw.out.lift HBX.out)
          have HCA := Go.Lib.hid (binders_calls x HFT.out (wo.heap.size + 1) 0 (.slice none 0 0) A2 A4 c2 c4 _ (show Tb ((wo.alloc (.cells #[.int .i64 x.f0, .int .i64 x.f1, .slice A2 x.f2.length c2, .slice A3 x.f3.length c3, .slice A4 x.f4.length c4] 28)).alloc (.cells #[.int .i64 x.f0, .int .i64 0, .slice A2 x.f2.length c2, .slice none 0 0, .slice A4 x.f4.length c4] 95)) (wo.heap.size + 1) x.f0 0 (.slice A2 x.f2.length c2) (.slice none 0 0) (.slice A4 x.f4.length c4) from heap_alloc2_new wo _ _) (Kd.C_below g2 HTX.out.b) (Kd.C_below g4 HTX.out.b))
          clear hlt l2 g2 l3 g3 l4 g4 htw
          go_wp2_with fail
          refine HCA.out.mono ?_
          rintro e w3 ⟨A5, c5, rfl, hc5, g5, hb3⟩
          have HT3 := Go.Lib.hid (HTX.out.lift hb3)
          have HG5 := Go.Lib.hid g5
          clear hb3 g5 hc5 HCA HTX HBX p0 p1 p2 p3 p4
          generalize bindsOf x = bs at HIX HSN HAL HBL HG5
          have hb9 : (bs.length : Int) ≤ 65552 := by have := HBL.out; omega
          go_wp2_with fail
          go_loopg [52] bs.length (fun g_ v52 w' => ∃ j : Nat, Hid (j + g_ = bs.length) ∧ v52 = .int .i64 j ∧ Hid ((seen ++ bs.take j).Nodup) ∧ Hid (Tw w w' (seen ++ bs.take j)) ∧ Hid (Kd.C (Kd.int .i64) w' A5 bs.length bs))
          case atStart => exact ⟨0, Go.Lib.hid (by omega), rfl, Go.Lib.hid (by simpa using hnd.out), Go.Lib.hid (by simpa using HT3.out), HG5⟩
          case round =>
            clear HG5 HT3 hnd
            obtain ⟨j, hj, rfl, hnd, htw, hg5⟩ := hrel
            obtain ⟨wi, hwi⟩ : ∃ wi : World, wi = wr := ⟨_, rfl⟩
            subst hwi
            by_cases hlt : j < bs.length
            · have hlt'' : (j : Int) < (bs.length : Int) := by omega
              have hj0 : (0 : Int) ≤ (j : Int) := by omega
              have HJ := Go.Lib.hid hlt
              obtain ⟨ad5, e_, p0⟩ := Kd.at_int hg5.out (j : Int) hj0 hlt''
              subst e_
              rw [rd_nat bs j hlt, Int.toNat_natCast] at p0
              have HTK := Go.Lib.hid (List.take_succ_eq_append_getElem hlt)
              have HZ := Go.Lib.hid (HIX.out _ (List.getElem_mem hlt))
              have HALJ := Go.Lib.hid (show allB params t = (seen ++ bs.take j) ++ (bs[j]'hlt) :: (bs.drop (j + 1) ++ (t.drop (i + 1)).flatMap bindsOf) by
                have e := (List.take_append_drop j bs).symm
                rw [List.drop_eq_getElem_cons hlt] at e
                rw [HAL.out]
                conv => lhs; rw [e]
                simp only [List.append_assoc, List.cons_append])
              generalize bs[j]'hlt = z at p0 HTK HZ HALJ
              have HLL := Go.Lib.hid (show (seen ++ bs.take j).length < maxLen by rw [List.length_append, List.length_take]; have h1 := hln.out; have h2 := HI.out; unfold maxLen; omega)
              have HTB := Go.Lib.hid (htw.out.lift (below_alloc (Below.refl _ _) (.cells #[] 134)))
              have HG6 := Go.Lib.hid (Kd.C_below hg5.out (below_alloc (Below.refl _ _) (.cells #[] 134)))
              clear hlt hg5
              by_cases hz : z ∈ seen ++ bs.take j
              · have HV := Go.Lib.hid (TwP.mk (w := w) (dup_hit HALJ.out hz) HTB.out.b)
                have HZM := Go.Lib.hid hz
                clear hz
                go_wp2_with (first | (at_lookup; refine wp_has _ rfl _ _ rfl w.heap.size _ _ rfl htw.out.s z rfl (idz_wf HZ.out) ?_; intro bb hbb; obtain rfl : bb = true := hbb.2 HZM.out; clear hbb) | fail)
                go_ret
                exact HV.out
              · have HZM := Go.Lib.hid hz
                clear hz
                go_wp2_with (first | (at_lookup; refine wp_has _ rfl _ _ rfl w.heap.size _ _ rfl htw.out.s z rfl (idz_wf HZ.out) ?_; intro bb hbb; obtain rfl := bool_false hbb HZM.out; clear hbb) | (at_mapUpdate; refine wp_add _ rfl _ _ _ rfl w.heap.size _ _ rfl HTB.out.s HLL.out z rfl (idz_wf HZ.out) rfl ?_; intro w5 hs5 hg5; have HG7 := Go.Lib.hid (C_stay HG6.out (HTB.out.s.stay hg5)); have HT5 := Go.Lib.hid (HTB.out.add hs5 hg5); clear hs5 hg5) | fail)
                go_roundg (gk - 1)
                case measure => have := hj.out; have := HJ.out; omega
                case rel => exact ⟨j + 1, Go.Lib.hid (by have := hj.out; have := HJ.out; omega), by go_num, Go.Lib.hid (by rw [HTK.out, ← List.append_assoc]; exact nodup_snoc hnd.out HZM.out), Go.Lib.hid (by rw [HTK.out, ← List.append_assoc]; exact HT5.out), HG7⟩
            · have hd : decide ((j : Int) < (bs.length : Int)) = false := decide_eq_false (by omega)
              have hd2 : decide (j < bs.length) = false := decide_eq_false hlt
              have HN2 := Go.Lib.hid (show (seen ++ bs).Nodup by have h := hnd.out; rw [List.take_of_length_le (by omega)] at h; exact h)
              have HT2 := Go.Lib.hid (show Tw w wi (seen ++ bs) by have h := htw.out; rw [List.take_of_length_le (by omega)] at h; exact h)
              clear hlt hnd htw hj hg5
              go_wp2_with fail
              go_roundg (ga - 1)
              case measure => have := hi.out; have := HI.out; omega
              case rel => exact ⟨i + 1, Go.Lib.hid (by have := hi.out; have := HI.out; omega), by go_num, Go.Lib.hid (by rw [HSN.out, ← List.append_assoc, HSE.out]; exact HN2.out), Go.Lib.hid (by rw [HSN.out, ← List.append_assoc, HSE.out]; exact HT2.out), Go.Lib.hid (by rw [HSN.out, ← List.append_assoc, HSE.out, List.length_append]; have := hln.out; have := HBL.out; omega)⟩
        · have hd : decide ((i : Int) < (t.length : Int)) = false := decide_eq_false (by omega)
          have hd2 : decide (i < t.length) = false := decide_eq_false hlt
          have HV := Go.Lib.hid (TwP.mk (w := w) (dup_no (show (allB params t).Nodup by have h := hnd.out; rw [List.take_of_length_le (by omega)] at h; exact h)) htw.out.b)
          clear hlt hnd htw hi hln
          go_wp2_with fail
          go_ret
          exact HV.out
end Go.Proofs.YtjhinklijopobaaDoor.Co
namespace Go.Proofs.YtjhinklijopobaaDoor.Co
open Go.RowKit Go.Proofs.YtjhinklijopobaaDoor.PCoreChecks Go.Proofs.YtjhinklijopobaaDoorW.PrintWords Go.Proofs.YtjhinklijopobaaDoorW.PrintLast Go.Proofs.YtjhinklijopobaaDoorW.PrintMore
set_option linter.unusedVariables false
set_option linter.unusedSimpArgs false

/-! ### slices.Clone of numbers -/
def CloP (l : List Int) (w : World) (e : Ending) (w' : World) : Prop := ∃ v, e = .returned v ∧ Kd.R (Kd.int .i64) 3 w' w.heap.size (fun _ => True) v l ∧ Below w.heap.size w w'
theorem CloP.mk {l : List Int} {w w' : World} {v : Value} (ho : w'.ownsRow w.heap.size 3 1 v l.length (encs (Value.int .i64) l)) (hb : Below w.heap.size w w') : CloP l w (.returned v) w' := ⟨v, rfl, Kd.R_of_own ho (fun _ _ => trivial), hb⟩
set_option maxHeartbeats 4000000 in
set_option maxRecDepth 100000 in
theorem clone_calls (l : List Int) (A : Option Addr) (c : Nat) (w : World) (hC : Kd.C (Kd.int .i64) w A l.length l) (hl : l.length ≤ 17592186044416) :
    Calls Tryd.prog 83 #[.slice A l.length c] w (CloP l w) := by
  have hq : ∀ (W : World) (B : Option Addr) (n c n' c' : Nat), (binOp .eql 25 (.slice B n c) (.slice none n' c')).run Tryd.prog W = .ok (.bool B.isNone) W := fun W B n c n' c' => Lib.run_eql_slice_nil W _ _ B n c n' c' Tryd.underlying25
  cases A with
  | none =>
    have hl0 : l = [] := by
      rcases Nat.eq_zero_or_pos l.length with h | h
      · exact List.eq_nil_of_length_eq_zero h
      · obtain ⟨ad, e, _⟩ := hC.2.2 h
        cases e
    subst hl0
    have HV := Go.Lib.hid (CloP.mk (l := []) (own_nil w w.heap.size 3 1) (Below.refl _ _))
    clear hC hl
    go_enter Tryd.func83, Tryd.ntmps83
    go_wp2_with fail
    go_ret
    exact HV.out
  | some ad =>
    have HRD := Go.Lib.hid (Kd.reads_of_C (d := (0 : Int)) (Kd.C_below hC (below_alloc (Below.refl w.heap.size w) (.cells #[] 3))))
    have HO := Go.Lib.hid (show (w.alloc (.cells #[] 3)).ownsRow w.heap.size 3 1 (.slice (some ⟨w.heap.size, 0, none⟩) 0 0) ([] : List Int).length (encs (Value.int .i64) []) from own_lit w w.heap.size 3 .i64 [] (Nat.le_refl _) (by simp))
    have HB := Go.Lib.hid (below_alloc (Below.refl w.heap.size w) (.cells #[] 3))
    have HL := Go.Lib.hid hl
    clear hC hl
    go_enter Tryd.func83, Tryd.ntmps83
    go_wp2_with ((with_reducible refine gate_builtin (b := .append) (xs := #[.tmp 5, .tmp 6]) rfl ?_); at_builtin; refine print_append_row_of (w0 := w) (Value.int .i64) (0 : Int) w.heap.size rfl (.tmp 5) (.tmp 6) 25 3 (.int .i64 0) 8 rfl Tryd.underlying25 info3 rfl (by decide) (fun _ => rfl) (.slice (some ⟨w.heap.size, 0, none⟩) 0 0) [] l (some ad) l.length c rfl rfl ?q1 ?q2 ?q3 ?q4 ?q5 ?_; (case q1 => exact HO.out); (case q2 => exact HRD.out); (case q3 => exact HB.out); (case q4 => exact HB.out.size); (case q5 => have q1_ := HL.out; simp; omega); intro v1 w9 ho9 hb9 hg9 hat9; have HV := Go.Lib.hid (CloP.mk (l := l) ho9 hb9); clear ho9 hb9 hg9 hat9)
    go_ret
    exact HV.out
end Go.Proofs.YtjhinklijopobaaDoor.Co
