import Derived.Test.YtjhinklijopobaaDoorGCC4
namespace Go.Proofs.YtjhinklijopobaaDoor.Co
open Go.RowKit Go.Proofs.YtjhinklijopobaaDoor.PCoreChecks Go.Proofs.YtjhinklijopobaaDoorW.PrintWords Go.Proofs.YtjhinklijopobaaDoorW.PrintLast Go.Proofs.YtjhinklijopobaaDoorW.PrintMore
set_option linter.unusedVariables false
set_option linter.unusedSimpArgs false

/-! ### A node by itself, as the program checks it -/
def KidP (x : S28) (w : World) (e : Ending) (w' : World) : Prop := ∃ A2 c2 A3 c3 A4 c4, e = .returned (nodeV x A2 c2 A3 c3 A4 c4) ∧ Below w.heap.size w w'
theorem KidP.mk {x : S28} {w w' : World} {A2 A3 A4 : Option Addr} {c2 c3 c4 : Nat} (hb : Below w.heap.size w w') : KidP x w (.returned (nodeV x A2 c2 A3 c3 A4 c4)) w' := ⟨A2, c2, A3, c3, A4, c4, rfl, hb⟩
set_option maxHeartbeats 4000000 in
set_option maxRecDepth 100000 in
theorem kid_calls (t : List S28) (k : Nat) (hk : k < t.length) (A0 : Option Addr) (c0 ge : Nat) (w : World) (hr : Kd.C k28 w A0 t.length t) (hg : w.cell? ⟨ge, 0, none⟩ = some (.slice A0 t.length c0)) :
    Calls Tryd.prog 72 #[.int .i64 (k : Int), .pointer (some ⟨ge, 0, none⟩)] w (KidP (rd_T28 t (k : Int)) w) := by
  have ht9 : (t.length : Int) ≤ 9223372036854775807 := by have := hr.2.1; omega
  have hki : (k : Int) < (t.length : Int) := by omega
  have hk0 : (0 : Int) ≤ (k : Int) := by omega
  obtain ⟨ad, A2, c2, A3, c3, A4, c4, e_, p0, p1, p2, p3, p4, -, -, -, -, -, -⟩ := at_T28 hr (k : Int) hk0 hki
  cases e_
  rw [Int.toNat_natCast] at p0 p1 p2 p3 p4
  generalize rd_T28 t (k : Int) = x at p0 p1 p2 p3 p4
  have hb := below_alloc (Below.refl w.heap.size w) (.cells #[.int .i64 0, .int .i64 0, .slice none 0 0, .slice none 0 0, .slice none 0 0] 28)
  replace p0 := pw_cell_below hb p0
  replace p1 := pw_cell_below hb p1
  replace p2 := pw_cell_below hb p2
  replace p3 := pw_cell_below hb p3
  replace p4 := pw_cell_below hb p4
  replace hg := pw_cell_below hb hg
  have HB := Go.Lib.hid hb
  clear hr hk hb
  go_enter Tryd.func72, Tryd.ntmps72
  go_wp2_with fail
  exact bodyPost_ret (results_cell_row rfl _ _ w.heap.size 28 _ (0, 0) _ rfl (blk_new w _) rfl rfl rfl) rfl (KidP.mk (x := x) (below_alloc (Below.refl _ _) _))

def nodeErrP (t : List S28) (x : S28) : Int := if shapeB x = true then (if numErr x = 0 then (if kidsB t x = true then 0 else 3) else numErr x) else 3
theorem nodeErr_eq (flat : Bool) (t : List S28) (x : S28) : nodeErr flat t x = if opBad flat x.f0 = true then 3 else nodeErrP t x := by
  unfold nodeErr nodeErrP formB
  cases opBad flat x.f0 <;> cases shapeB x <;> simp
def NoP (t : List S28) (x : S28) (w : World) (e : Ending) (w' : World) : Prop := e = .returned (.int .i64 (nodeErrP t x)) ∧ Below w.heap.size w w'
theorem NoP.mk {t : List S28} {x : S28} {w w' : World} {v : Int} (h : nodeErrP t x = v) (hb : Below w.heap.size w w') : NoP t x w (.returned (.int .i64 v)) w' := ⟨by rw [h], hb⟩
theorem shape_parts {x : S28} (h : shapeB x = true) : (kidsN x.f0 x.f1 x.f2.length x.f3.length x.f4.length).1 = (x.f3.length : Int) ∧ altsB x.f0 x.f4 = true ∧ bindsB x.f0 x.f2.length = true := by
  unfold shapeB at h
  simp only [Bool.and_eq_true, decide_eq_true_eq] at h
  exact ⟨h.1, h.2.2.1, h.2.2.2⟩
theorem shape_none {x : S28} (h : shapeB x = true) (h7 : ¬ (x.f0 = 7 ∨ x.f0 = 13)) : x.f4 = [] := by
  have h1 := (shape_parts h).2.1
  unfold altsB at h1
  rw [if_neg h7] at h1
  exact List.eq_nil_of_length_eq_zero (of_decide_eq_true h1)
theorem shape_rec {x : S28} (h : shapeB x = true) (h5 : x.f0 = 5) : x.f3.length = x.f2.length + 1 := by
  have h1 := (shape_parts h).1
  unfold kidsN at h1
  rw [if_neg (by omega), if_neg (by omega), if_neg (by omega), if_neg (by omega), if_pos h5] at h1
  simp only at h1
  omega
theorem kidB_bad {t : List S28} {x : S28} {i : Nat} (hs : shapeB x = true) (hn : numErr x = 0) (hi : i < x.f2.length) (h : kidB t x i = false) : nodeErrP t x = 3 := by
  unfold nodeErrP
  rw [hs, if_pos rfl, if_pos hn, if_neg]
  unfold kidsB
  rw [List.all_eq_true]
  intro h2
  have := h2 i (List.mem_range.2 hi)
  rw [h] at this
  cases this
/-- What stays while the kid is looked at. -/
def Kq (w : World) (x : S28) (A2 A3 A4 : Option Addr) (c2 c3 c4 : Nat) (ad : Addr) (i : Nat) (y : Int) (w' : World) : Prop :=
  w'.cell? ⟨w.heap.size, 0, none⟩ = some (.int .i64 x.f0) ∧ w'.cell? ⟨w.heap.size, 3, none⟩ = some (.slice A3 x.f3.length c3) ∧ w'.cell? (ad.add i) = some (.int .i64 y) ∧ Hid (Kx w x A2 c2 A3 c3 A4 c4 w')
theorem Kq.below {w : World} {x : S28} {A2 A3 A4 : Option Addr} {c2 c3 c4 : Nat} {ad : Addr} {i : Nat} {y : Int} {W W' : World} (h : Kq w x A2 A3 A4 c2 c3 c4 ad i y W) (hb : Below W.heap.size W W') : Kq w x A2 A3 A4 c2 c3 c4 ad i y W' :=
  ⟨pw_cell_below hb h.1, pw_cell_below hb h.2.1, pw_cell_below hb h.2.2.1, Go.Lib.hid (h.2.2.2.out.below hb)⟩
theorem kid_arm {t : List S28} {k : Nat} {A0 : Option Addr} {c0 ge : Nat} {w : World} {x : S28} {A2 A3 A4 : Option Addr} {c2 c3 c4 : Nat} {ad : Addr} {i : Nat} {y : Int} {w' : World}
    (hk : Hid (k < t.length)) (hr : Hid (Kd.C k28 w A0 t.length t)) (hg : Hid (w.cell? ⟨ge, 0, none⟩ = some (.slice A0 t.length c0))) (h : Kq w x A2 A3 A4 c2 c3 c4 ad i y w') :
    Calls Tryd.prog 72 #[.int .i64 (k : Int), .pointer (some ⟨ge, 0, none⟩)] w' fun e wn => ∃ B2 d2 B3 d3 B4 d4, e = .returned (nodeV (rd_T28 t (k : Int)) B2 d2 B3 d3 B4 d4) ∧ Kq w x A2 A3 A4 c2 c3 c4 ad i y wn :=
  (kid_calls t k hk.out A0 c0 ge w' (Kd.C_below hr.out h.2.2.2.out.b) (pw_cell_below h.2.2.2.out.b hg.out)).mono fun e wn h2 => by
    obtain ⟨B2, d2, B3, d3, B4, d4, rfl, hb⟩ := h2
    exact ⟨B2, d2, B3, d3, B4, d4, rfl, h.below hb⟩
set_option maxHeartbeats 8000000 in
set_option maxRecDepth 100000 in
theorem nodeError_calls (t : List S28) (x : S28) (hx : Small x) (htr : treeB t = true) (hm : x ∈ t) (A0 A2 A3 A4 : Option Addr) (c0 c2 c3 c4 ge : Nat) (w : World) (hT : Tab w) (hr : Kd.C k28 w A0 t.length t) (hg : w.cell? ⟨ge, 0, none⟩ = some (.slice A0 t.length c0)) (h : Node w x A2 c2 A3 c3 A4 c4) :
    Calls Tryd.prog 71 #[nodeV x A2 c2 A3 c3 A4 c4, .func (.func 72) #[] #[.pointer (some ⟨ge, 0, none⟩)]] w (NoP t x w) := by
  have HN := Go.Lib.hid h
  have HR := Go.Lib.hid hr
  have HG := Go.Lib.hid hg
  have HT := Go.Lib.hid hT
  have HS := Go.Lib.hid hx
  have HTR := Go.Lib.hid htr
  have HM := Go.Lib.hid hm
  have HK0 := Go.Lib.hid (Kx.made w x A2 A3 A4 c2 c3 c4)
  have HSH := Go.Lib.hid (shape_calls x hx A2 A3 A4 c2 c3 c4 _ (hT.below HK0.out.b) (h.below HK0.out.b))
  have hb9 : (x.f2.length : Int) ≤ 17592186044416 := by have := hx.b; omega
  have hk9 : (x.f3.length : Int) ≤ 17592186044416 := by have := hx.k; omega
  clear h hr hg hT hx htr hm
  go_enter Tryd.func71, Tryd.ntmps71
  go_wp2_with fail
  refine HSH.out.mono ?_
  rintro e w1 ⟨rfl, hb1⟩
  have HK1 := Go.Lib.hid (HK0.out.below hb1)
  obtain ⟨x0, x1, x2, x3, x4⟩ := HK1.out.bx.cells
  clear hb1 HK0 HSH
  cases hsh : shapeB x with
  | false =>
    have HV := Go.Lib.hid (NoP.mk (t := t) (x := x) (w := w) (v := 3) (by unfold nodeErrP; rw [hsh]; rfl) HK1.out.b)
    clear hsh
    go_wp2_with fail
    go_ret
    exact HV.out
  | true =>
    have HSB := Go.Lib.hid hsh
    clear hsh
    have HRN := Go.Lib.hid (rngC_calls x HS.out (fun h2 => shape_none HSB.out (by omega)) A2 A3 A4 c2 c3 c4 w1 (HN.out.below HK1.out.b))
    go_wp2_with fail
    refine HRN.out.mono ?_
    rintro e w2 ⟨rfl, hb2⟩
    have HK2 := Go.Lib.hid (HK1.out.below hb2)
    clear x0 x1 x2 x3 x4
    obtain ⟨x0, x1, x2, x3, x4⟩ := HK2.out.bx.cells
    clear hb2 HK1 HRN
    by_cases hne : numErr x = 0
    · have hb : (numErr x == 0) = true := beq_iff_eq.2 hne
      have hb1 : (numErr x != 0) = false := by simp [hne]
      have HNE := Go.Lib.hid hne
      clear hne
      go_wp2_with fail
      go_loopg [18] x.f2.length (fun g_ v18 w' => ∃ i : Nat, Hid (i + g_ = x.f2.length) ∧ v18 = .int .i64 i ∧ Hid (∀ j, j < i → kidB t x j = true) ∧ Hid (Kx w x A2 c2 A3 c3 A4 c4 w'))
      case atStart => exact ⟨0, Go.Lib.hid (by omega), rfl, Go.Lib.hid (by omega), HK2⟩
      case round =>
        clear HK2 x0 x1 x2 x3 x4
        obtain ⟨i, hi, rfl, ha, hk⟩ := hrel
        obtain ⟨wo, hwo⟩ : ∃ wo : World, wo = wr := ⟨_, rfl⟩
        subst hwo
        obtain ⟨x0, x1, x2, x3, x4⟩ := hk.out.bx.cells
        by_cases hlt : i < x.f2.length
        · have hlt' : (i : Int) < (x.f2.length : Int) := by omega
          have hi0 : (0 : Int) ≤ (i : Int) := by omega
          have HI := Go.Lib.hid hlt
          have HBAD := Go.Lib.hid (show kidB t x i = false → nodeErrP t x = 3 from kidB_bad HSB.out HNE.out hlt)
          have HGO := Go.Lib.hid (show kidB t x i = true → ∀ j, j < i + 1 → kidB t x j = true from fun h j hj => by
            by_cases e : j = i
            · subst e; exact h
            · exact ha.out j (by omega))
          have HKD := Go.Lib.hid (show kidB t x i = !((decide (x.f0 = 5) && decide ((rd_T28 t (rd x.f3 i)).f0 ≠ 2)) || (decide (x.f0 = 9) && (decide (0 < i) && decide (rd x.f2 i ≤ rd x.f2 ((i : Int) - 1))))) from rfl)
          clear ha
          by_cases h5 : x.f0 = 5
          · have e5 : (x.f0 == 5) = true := beq_iff_eq.2 h5
            have e9 : (x.f0 == 9) = false := beq_eq_false_iff_ne.2 (by omega)
            have hlk : i < x.f3.length := by have := shape_rec HSB.out h5; omega
            rw [decide_eq_true h5, decide_eq_false (show ¬ x.f0 = 9 by omega), Bool.true_and, Bool.false_and, Bool.or_false] at HKD
            clear h5
            have hlk' : (i : Int) < (x.f3.length : Int) := by omega
            obtain ⟨ad, e_, q0⟩ := Kd.at_int (Kd.C_below HN.out.g3 hk.out.b) (i : Int) hi0 hlk'
            cases e_
            rw [Int.toNat_natCast] at q0
            obtain ⟨k, hkk, hkt⟩ : ∃ k : Nat, rd x.f3 (i : Int) = (k : Int) ∧ k < t.length := by
              obtain ⟨j, hj, e⟩ := List.mem_iff_getElem.1 HM.out
              obtain ⟨-, hr, -⟩ := treeB_parts HTR.out
              have hb := badK_mem (rB_at hr j hj) (by rw [e]; exact List.getElem_mem hlk)
              refine ⟨(x.f3[i]'hlk).toNat, ?_, by omega⟩
              rw [rd_nat x.f3 i hlk]; omega
            rw [hkk] at q0 HKD
            have HKT := Go.Lib.hid hkt
            have HQ := Go.Lib.hid (show Kq w x A2 (some ad) A4 c2 c3 c4 ad i (k : Int) wo from ⟨x0, x3, q0, hk⟩)
            have hfd : ∀ (a b c d e : Value) (W : World), (Instr.field 28 (.agg #[a, b, c, d, e]) 0).run Tryd.prog W = .ok a W := fun a b c d e W => by kernel_rfl
            by_cases hz : (rd_T28 t (k : Int)).f0 = 2
            · have z1 : ((rd_T28 t (k : Int)).f0 == 2) = true := beq_iff_eq.2 hz
              have z2 : ((rd_T28 t (k : Int)).f0 != 2) = false := by simp [hz]
              rw [decide_eq_false (show ¬ (rd_T28 t (k : Int)).f0 ≠ 2 from fun h => h hz)] at HKD
              clear hz
              clear hkk hkt hlk hlt x0 x1 x2 x3 x4 hk q0
              go_wp2_with fail
              refine wp_region_held_drew (S := fun w' => w'.cell? ⟨w.heap.size, 0, none⟩ = some (.int .i64 x.f0) ∧ w'.cell? ⟨w.heap.size, 3, none⟩ = some (.slice (some ad) x.f3.length c3) ∧ w'.cell? (ad.add i) = some (.int .i64 (k : Int)) ∧ Hid (Kx w x A2 c2 (some ad) c3 A4 c4 w')) (by kernel_rfl) (HQ.out.below (below_drew (Below.refl _ _))) (fun hHeld => ?_)
              refine wpAnyH_take (i := 0) (oi := { dst := some 21, op := Op.fieldAddr 28 (Operand.tmp 2) 0, type := 0, pos := "core.go:226", after := #[], guard := none }) (v := ?_) rfl (by kernel_rfl) (by kernel_rfl) (by kernel_rfl) (fun _ _ _ h => h) (Or.inl ⟨by rfl, ?_⟩) (by assumption) ?_
              rotate_left 1
              · intro w hSw; (try dsimp only at hSw); go_simp; (try with_reducible rfl)
              (try simp only [Act.put, List.setIfInBounds_toArray, List.set_cons_zero, List.set_cons_succ])
              refine wpAnyH_take (i := 1) (oi := { dst := some 22, op := Op.load 3 (Operand.tmp 21), type := 3, pos := "core.go:226", after := #[{ on := 0, ground := Ground.data }], guard := none }) (v := ?_) rfl (by kernel_rfl) (by kernel_rfl) (by kernel_rfl) (fun _ _ _ h => h) (Or.inl ⟨by rfl, ?_⟩) (by assumption) ?_
              rotate_left 1
              · intro w hSw; (try dsimp only at hSw); go_simp; (try with_reducible rfl)
              (try simp only [Act.put, List.setIfInBounds_toArray, List.set_cons_zero, List.set_cons_succ])
              refine wpAnyH_take (i := 2) (oi := { dst := some 23, op := Op.binOp BinOp.eql 3 (Operand.tmp 22) (Operand.const (Value.int IntKind.i64 5)) 3, type := 4, pos := "core.go:226", after := #[{ on := 1, ground := Ground.data }], guard := none }) (v := ?_) rfl (by kernel_rfl) (by kernel_rfl) (by kernel_rfl) (fun _ _ _ h => h) (Or.inl ⟨by rfl, ?_⟩) (by assumption) ?_
              rotate_left 1
              · intro w hSw; (try dsimp only at hSw); go_simp; (try with_reducible rfl)
              (try simp only [Act.put, List.setIfInBounds_toArray, List.set_cons_zero, List.set_cons_succ])
              refine wpAnyH_take (i := 3) (oi := { dst := some 24, op := Op.move (Operand.tmp 23), type := 4, pos := "core.go:226", after := #[{ on := 2, ground := Ground.data }], guard := none }) (v := ?_) rfl (by kernel_rfl) (by kernel_rfl) (by kernel_rfl) (fun _ _ _ h => h) (Or.inl ⟨by rfl, ?_⟩) (by assumption) ?_
              rotate_left 1
              · intro w hSw; (try dsimp only at hSw); go_simp; (try with_reducible rfl)
              (try simp only [Act.put, List.setIfInBounds_toArray, List.set_cons_zero, List.set_cons_succ])
              refine wpAnyH_take (i := 4) (oi := { dst := some 25, op := Op.move (Operand.tmp 1), type := 109, pos := "core.go:226", after := #[{ on := 3, ground := Ground.guard }], guard := some (3, true) }) (v := ?_) rfl (by kernel_rfl) (by kernel_rfl) (by kernel_rfl) (fun _ _ _ h => h) (Or.inl ⟨by rfl, ?_⟩) (by assumption) ?_
              rotate_left 1
              · intro w hSw; (try dsimp only at hSw); go_simp; (try with_reducible rfl)
              (try simp only [Act.put, List.setIfInBounds_toArray, List.set_cons_zero, List.set_cons_succ])
              refine wpAnyH_take (i := 5) (oi := { dst := some 26, op := Op.fieldAddr 28 (Operand.tmp 2) 3, type := 0, pos := "core.go:226", after := #[{ on := 3, ground := Ground.guard }], guard := some (3, true) }) (v := ?_) rfl (by kernel_rfl) (by kernel_rfl) (by kernel_rfl) (fun _ _ _ h => h) (Or.inl ⟨by rfl, ?_⟩) (by assumption) ?_
              rotate_left 1
              · intro w hSw; (try dsimp only at hSw); go_simp; (try with_reducible rfl)
              (try simp only [Act.put, List.setIfInBounds_toArray, List.set_cons_zero, List.set_cons_succ])
              refine wpAnyH_take (i := 6) (oi := { dst := some 27, op := Op.load 25 (Operand.tmp 26), type := 25, pos := "core.go:226", after := #[{ on := 5, ground := Ground.data }, { on := 3, ground := Ground.guard }], guard := some (3, true) }) (v := ?_) rfl (by kernel_rfl) (by kernel_rfl) (by kernel_rfl) (fun _ _ _ h => h) (Or.inl ⟨by rfl, ?_⟩) (by assumption) ?_
              rotate_left 1
              · intro w hSw; (try dsimp only at hSw); go_simp; (try with_reducible rfl)
              (try simp only [Act.put, List.setIfInBounds_toArray, List.set_cons_zero, List.set_cons_succ])
              refine wpAnyH_take (i := 7) (oi := { dst := some 28, op := Op.move (Operand.tmp 6), type := 3, pos := "core.go:226", after := #[{ on := 3, ground := Ground.guard }], guard := some (3, true) }) (v := ?_) rfl (by kernel_rfl) (by kernel_rfl) (by kernel_rfl) (fun _ _ _ h => h) (Or.inl ⟨by rfl, ?_⟩) (by assumption) ?_
              rotate_left 1
              · intro w hSw; (try dsimp only at hSw); go_simp; (try with_reducible rfl)
              (try simp only [Act.put, List.setIfInBounds_toArray, List.set_cons_zero, List.set_cons_succ])
              refine wpAnyH_take (i := 8) (oi := { dst := some 29, op := Op.indexAddr 25 (Operand.tmp 27) (Operand.tmp 28), type := 0, pos := "core.go:226", after := #[{ on := 6, ground := Ground.data }, { on := 7, ground := Ground.data }, { on := 3, ground := Ground.guard }], guard := some (3, true) }) (v := ?_) rfl (by kernel_rfl) (by kernel_rfl) (by kernel_rfl) (fun _ _ _ h => h) (Or.inl ⟨by rfl, ?_⟩) (by assumption) ?_
              rotate_left 1
              · intro w hSw; (try dsimp only at hSw); go_simp; (try with_reducible rfl)
              (try simp only [Act.put, List.setIfInBounds_toArray, List.set_cons_zero, List.set_cons_succ])
              refine wpAnyH_take (i := 9) (oi := { dst := some 30, op := Op.load 3 (Operand.tmp 29), type := 3, pos := "core.go:226", after := #[{ on := 8, ground := Ground.data }, { on := 3, ground := Ground.guard }], guard := some (3, true) }) (v := ?_) rfl (by kernel_rfl) (by kernel_rfl) (by kernel_rfl) (fun _ _ _ h => h) (Or.inl ⟨by rfl, ?_⟩) (by assumption) ?_
              rotate_left 1
              · intro w hSw; (try dsimp only at hSw); go_simp; (try with_reducible rfl)
              (try simp only [Act.put, List.setIfInBounds_toArray, List.set_cons_zero, List.set_cons_succ])
              refine wpAnyH_ready (rs := [10]) (by kernel_rfl) (by simp) ?_
              refine AllReadyH.cons (o := { dst := some 31, op := Op.call { callee := Callee.value (Operand.tmp 25), args := #[Operand.tmp 30], argTypes := #[3] }, type := 28, pos := "core.go:226", after := #[{ on := 4, ground := Ground.data }, { on := 9, ground := Ground.data }, { on := 3, ground := Ground.chain }, { on := 3, ground := Ground.guard }], guard := some (3, true) }) rfl (fun K hK => ?_) AllReadyH.nil
              go_simp
              (go_at_call 72; refine (kid_arm HKT HR HG (show Kq w x A2 (some ad) A4 c2 c3 c4 ad i (k : Int) _ from ‹_ ∧ _ ∧ _ ∧ Hid (Kx w x A2 c2 (some ad) c3 A4 c4 _)›)).mono ?_; rintro e wn ⟨B2, d2, B3, d3, B4, d4, rfl, hNew⟩)
              refine hK.out _ _ (hNew) (fun hHeld => ?_)
              clear hK K
              (try simp only [Act.put, List.setIfInBounds_toArray, List.set_cons_zero, List.set_cons_succ])
              refine wpAnyH_take (i := 11) (oi := { dst := some 32, op := Op.field 28 (Operand.tmp 31) 0, type := 3, pos := "core.go:226", after := #[{ on := 10, ground := Ground.data }, { on := 3, ground := Ground.guard }], guard := some (3, true) }) (v := ?_) rfl (by kernel_rfl) (by kernel_rfl) (by kernel_rfl) (fun _ _ _ h => h) (Or.inl ⟨by rfl, ?_⟩) (by assumption) ?_
              rotate_left 1
              · intro w hSw; (try dsimp only at hSw); go_simp; (try with_reducible rfl)
              (try simp only [Act.put, List.setIfInBounds_toArray, List.set_cons_zero, List.set_cons_succ])
              refine wpAnyH_take (i := 12) (oi := { dst := some 33, op := Op.binOp BinOp.neq 3 (Operand.tmp 32) (Operand.const (Value.int IntKind.i64 2)) 3, type := 4, pos := "core.go:226", after := #[{ on := 11, ground := Ground.data }, { on := 3, ground := Ground.guard }], guard := some (3, true) }) (v := ?_) rfl (by kernel_rfl) (by kernel_rfl) (by kernel_rfl) (fun _ _ _ h => h) (Or.inl ⟨by rfl, ?_⟩) (by assumption) ?_
              rotate_left 1
              · intro w hSw; (try dsimp only at hSw); go_simp; (try with_reducible rfl)
              (try simp only [Act.put, List.setIfInBounds_toArray, List.set_cons_zero, List.set_cons_succ])
              refine wpAnyH_take (i := 13) (oi := { dst := some 34, op := Op.pick (Operand.tmp 24) (Operand.tmp 33) (Operand.const (Value.bool false)), type := 4, pos := "core.go:226", after := #[{ on := 3, ground := Ground.data }, { on := 12, ground := Ground.data }], guard := none }) (v := ?_) rfl (by kernel_rfl) (by kernel_rfl) (by kernel_rfl) (fun _ _ _ h => h) (Or.inl ⟨by rfl, ?_⟩) (by assumption) ?_
              rotate_left 1
              · intro w hSw; (try dsimp only at hSw); go_simp; (try with_reducible rfl)
              (try simp only [Act.put, List.setIfInBounds_toArray, List.set_cons_zero, List.set_cons_succ])
              refine wpAnyH_take (i := 14) (oi := { dst := some 35, op := Op.move (Operand.tmp 34), type := 4, pos := "core.go:226", after := #[{ on := 13, ground := Ground.data }, { on := 10, ground := Ground.chain }], guard := none }) (v := ?_) rfl (by kernel_rfl) (by kernel_rfl) (by kernel_rfl) (fun _ _ _ h => h) (Or.inl ⟨by rfl, ?_⟩) (by assumption) ?_
              rotate_left 1
              · intro w hSw; (try dsimp only at hSw); go_simp; (try with_reducible rfl)
              (try simp only [Act.put, List.setIfInBounds_toArray, List.set_cons_zero, List.set_cons_succ])
              refine wpAnyH_take (i := 15) (oi := { dst := some 36, op := Op.fieldAddr 28 (Operand.tmp 2) 0, type := 0, pos := "core.go:226", after := #[{ on := 14, ground := Ground.guard }], guard := some (14, false) }) (v := ?_) rfl (by kernel_rfl) (by kernel_rfl) (by kernel_rfl) (fun _ _ _ h => h) (Or.inl ⟨by rfl, ?_⟩) (by assumption) ?_
              rotate_left 1
              · intro w hSw; (try dsimp only at hSw); go_simp; (try with_reducible rfl)
              (try simp only [Act.put, List.setIfInBounds_toArray, List.set_cons_zero, List.set_cons_succ])
              refine wpAnyH_take (i := 16) (oi := { dst := some 37, op := Op.load 3 (Operand.tmp 36), type := 3, pos := "core.go:226", after := #[{ on := 15, ground := Ground.data }, { on := 14, ground := Ground.guard }], guard := some (14, false) }) (v := ?_) rfl (by kernel_rfl) (by kernel_rfl) (by kernel_rfl) (fun _ _ _ h => h) (Or.inl ⟨by rfl, ?_⟩) (by assumption) ?_
              rotate_left 1
              · intro w hSw; (try dsimp only at hSw); go_simp; (try with_reducible rfl)
              (try simp only [Act.put, List.setIfInBounds_toArray, List.set_cons_zero, List.set_cons_succ])
              refine wpAnyH_take (i := 17) (oi := { dst := some 38, op := Op.binOp BinOp.eql 3 (Operand.tmp 37) (Operand.const (Value.int IntKind.i64 9)) 3, type := 4, pos := "core.go:226", after := #[{ on := 16, ground := Ground.data }, { on := 14, ground := Ground.guard }], guard := some (14, false) }) (v := ?_) rfl (by kernel_rfl) (by kernel_rfl) (by kernel_rfl) (fun _ _ _ h => h) (Or.inl ⟨by rfl, ?_⟩) (by assumption) ?_
              rotate_left 1
              · intro w hSw; (try dsimp only at hSw); go_simp; (try with_reducible rfl)
              (try simp only [Act.put, List.setIfInBounds_toArray, List.set_cons_zero, List.set_cons_succ])
              refine wpAnyH_take (i := 18) (oi := { dst := some 39, op := Op.move (Operand.tmp 38), type := 4, pos := "core.go:226", after := #[{ on := 17, ground := Ground.data }, { on := 14, ground := Ground.chain }, { on := 14, ground := Ground.guard }], guard := some (14, false) }) (v := ?_) rfl (by kernel_rfl) (by kernel_rfl) (by kernel_rfl) (fun _ _ _ h => h) (Or.inl ⟨by rfl, ?_⟩) (by assumption) ?_
              rotate_left 1
              · intro w hSw; (try dsimp only at hSw); go_simp; (try with_reducible rfl)
              (try simp only [Act.put, List.setIfInBounds_toArray, List.set_cons_zero, List.set_cons_succ])
              refine wpAnyH_take (i := 19) (oi := { dst := some 40, op := Op.move (Operand.tmp 6), type := 3, pos := "core.go:226", after := #[{ on := 18, ground := Ground.guard }], guard := some (18, true) }) (v := undef) rfl (by kernel_rfl) (by kernel_rfl) (by kernel_rfl) (fun _ _ _ h => h) (Or.inr ⟨by kernel_rfl, rfl⟩) (by assumption) ?_
              (try simp only [Act.put, List.setIfInBounds_toArray, List.set_cons_zero, List.set_cons_succ])
              refine wpAnyH_take (i := 20) (oi := { dst := some 41, op := Op.binOp BinOp.gtr 3 (Operand.tmp 40) (Operand.const (Value.int IntKind.i64 0)) 3, type := 4, pos := "core.go:226", after := #[{ on := 19, ground := Ground.data }, { on := 18, ground := Ground.guard }], guard := some (18, true) }) (v := undef) rfl (by kernel_rfl) (by kernel_rfl) (by kernel_rfl) (fun _ _ _ h => h) (Or.inr ⟨by kernel_rfl, rfl⟩) (by assumption) ?_
              (try simp only [Act.put, List.setIfInBounds_toArray, List.set_cons_zero, List.set_cons_succ])
              refine wpAnyH_take (i := 21) (oi := { dst := some 42, op := Op.pick (Operand.tmp 39) (Operand.tmp 41) (Operand.const (Value.bool false)), type := 4, pos := "core.go:226", after := #[{ on := 18, ground := Ground.data }, { on := 20, ground := Ground.data }, { on := 14, ground := Ground.guard }], guard := some (14, false) }) (v := ?_) rfl (by kernel_rfl) (by kernel_rfl) (by kernel_rfl) (fun _ _ _ h => h) (Or.inl ⟨by rfl, ?_⟩) (by assumption) ?_
              rotate_left 1
              · intro w hSw; (try dsimp only at hSw); go_simp; (try with_reducible rfl)
              (try simp only [Act.put, List.setIfInBounds_toArray, List.set_cons_zero, List.set_cons_succ])
              refine wpAnyH_take (i := 22) (oi := { dst := some 43, op := Op.move (Operand.tmp 42), type := 4, pos := "core.go:226", after := #[{ on := 21, ground := Ground.data }, { on := 18, ground := Ground.chain }, { on := 14, ground := Ground.guard }], guard := some (14, false) }) (v := ?_) rfl (by kernel_rfl) (by kernel_rfl) (by kernel_rfl) (fun _ _ _ h => h) (Or.inl ⟨by rfl, ?_⟩) (by assumption) ?_
              rotate_left 1
              · intro w hSw; (try dsimp only at hSw); go_simp; (try with_reducible rfl)
              (try simp only [Act.put, List.setIfInBounds_toArray, List.set_cons_zero, List.set_cons_succ])
              refine wpAnyH_take (i := 23) (oi := { dst := some 44, op := Op.fieldAddr 28 (Operand.tmp 2) 2, type := 0, pos := "core.go:226", after := #[{ on := 22, ground := Ground.guard }], guard := some (22, true) }) (v := undef) rfl (by kernel_rfl) (by kernel_rfl) (by kernel_rfl) (fun _ _ _ h => h) (Or.inr ⟨by kernel_rfl, rfl⟩) (by assumption) ?_
              (try simp only [Act.put, List.setIfInBounds_toArray, List.set_cons_zero, List.set_cons_succ])
              refine wpAnyH_take (i := 24) (oi := { dst := some 45, op := Op.load 25 (Operand.tmp 44), type := 25, pos := "core.go:226", after := #[{ on := 23, ground := Ground.data }, { on := 22, ground := Ground.guard }], guard := some (22, true) }) (v := undef) rfl (by kernel_rfl) (by kernel_rfl) (by kernel_rfl) (fun _ _ _ h => h) (Or.inr ⟨by kernel_rfl, rfl⟩) (by assumption) ?_
              (try simp only [Act.put, List.setIfInBounds_toArray, List.set_cons_zero, List.set_cons_succ])
              refine wpAnyH_take (i := 25) (oi := { dst := some 46, op := Op.move (Operand.tmp 6), type := 3, pos := "core.go:226", after := #[{ on := 22, ground := Ground.guard }], guard := some (22, true) }) (v := undef) rfl (by kernel_rfl) (by kernel_rfl) (by kernel_rfl) (fun _ _ _ h => h) (Or.inr ⟨by kernel_rfl, rfl⟩) (by assumption) ?_
              (try simp only [Act.put, List.setIfInBounds_toArray, List.set_cons_zero, List.set_cons_succ])
              refine wpAnyH_take (i := 26) (oi := { dst := some 47, op := Op.binOp BinOp.sub 3 (Operand.tmp 46) (Operand.const (Value.int IntKind.i64 1)) 3, type := 3, pos := "core.go:226", after := #[{ on := 25, ground := Ground.data }, { on := 22, ground := Ground.guard }], guard := some (22, true) }) (v := undef) rfl (by kernel_rfl) (by kernel_rfl) (by kernel_rfl) (fun _ _ _ h => h) (Or.inr ⟨by kernel_rfl, rfl⟩) (by assumption) ?_
              (try simp only [Act.put, List.setIfInBounds_toArray, List.set_cons_zero, List.set_cons_succ])
              refine wpAnyH_take (i := 27) (oi := { dst := some 48, op := Op.indexAddr 25 (Operand.tmp 45) (Operand.tmp 47), type := 0, pos := "core.go:226", after := #[{ on := 24, ground := Ground.data }, { on := 26, ground := Ground.data }, { on := 22, ground := Ground.guard }], guard := some (22, true) }) (v := undef) rfl (by kernel_rfl) (by kernel_rfl) (by kernel_rfl) (fun _ _ _ h => h) (Or.inr ⟨by kernel_rfl, rfl⟩) (by assumption) ?_
              (try simp only [Act.put, List.setIfInBounds_toArray, List.set_cons_zero, List.set_cons_succ])
              refine wpAnyH_take (i := 28) (oi := { dst := some 49, op := Op.load 3 (Operand.tmp 48), type := 3, pos := "core.go:226", after := #[{ on := 27, ground := Ground.data }, { on := 22, ground := Ground.guard }], guard := some (22, true) }) (v := undef) rfl (by kernel_rfl) (by kernel_rfl) (by kernel_rfl) (fun _ _ _ h => h) (Or.inr ⟨by kernel_rfl, rfl⟩) (by assumption) ?_
              (try simp only [Act.put, List.setIfInBounds_toArray, List.set_cons_zero, List.set_cons_succ])
              refine wpAnyH_take (i := 29) (oi := { dst := some 50, op := Op.fieldAddr 28 (Operand.tmp 2) 2, type := 0, pos := "core.go:226", after := #[{ on := 22, ground := Ground.guard }], guard := some (22, true) }) (v := undef) rfl (by kernel_rfl) (by kernel_rfl) (by kernel_rfl) (fun _ _ _ h => h) (Or.inr ⟨by kernel_rfl, rfl⟩) (by assumption) ?_
              (try simp only [Act.put, List.setIfInBounds_toArray, List.set_cons_zero, List.set_cons_succ])
              refine wpAnyH_take (i := 30) (oi := { dst := some 51, op := Op.load 25 (Operand.tmp 50), type := 25, pos := "core.go:226", after := #[{ on := 29, ground := Ground.data }, { on := 22, ground := Ground.guard }], guard := some (22, true) }) (v := undef) rfl (by kernel_rfl) (by kernel_rfl) (by kernel_rfl) (fun _ _ _ h => h) (Or.inr ⟨by kernel_rfl, rfl⟩) (by assumption) ?_
              (try simp only [Act.put, List.setIfInBounds_toArray, List.set_cons_zero, List.set_cons_succ])
              refine wpAnyH_take (i := 31) (oi := { dst := some 52, op := Op.move (Operand.tmp 6), type := 3, pos := "core.go:226", after := #[{ on := 22, ground := Ground.guard }], guard := some (22, true) }) (v := undef) rfl (by kernel_rfl) (by kernel_rfl) (by kernel_rfl) (fun _ _ _ h => h) (Or.inr ⟨by kernel_rfl, rfl⟩) (by assumption) ?_
              (try simp only [Act.put, List.setIfInBounds_toArray, List.set_cons_zero, List.set_cons_succ])
              refine wpAnyH_take (i := 32) (oi := { dst := some 53, op := Op.indexAddr 25 (Operand.tmp 51) (Operand.tmp 52), type := 0, pos := "core.go:226", after := #[{ on := 30, ground := Ground.data }, { on := 31, ground := Ground.data }, { on := 22, ground := Ground.guard }], guard := some (22, true) }) (v := undef) rfl (by kernel_rfl) (by kernel_rfl) (by kernel_rfl) (fun _ _ _ h => h) (Or.inr ⟨by kernel_rfl, rfl⟩) (by assumption) ?_
              (try simp only [Act.put, List.setIfInBounds_toArray, List.set_cons_zero, List.set_cons_succ])
              refine wpAnyH_take (i := 33) (oi := { dst := some 54, op := Op.load 3 (Operand.tmp 53), type := 3, pos := "core.go:226", after := #[{ on := 32, ground := Ground.data }, { on := 22, ground := Ground.guard }], guard := some (22, true) }) (v := undef) rfl (by kernel_rfl) (by kernel_rfl) (by kernel_rfl) (fun _ _ _ h => h) (Or.inr ⟨by kernel_rfl, rfl⟩) (by assumption) ?_
              (try simp only [Act.put, List.setIfInBounds_toArray, List.set_cons_zero, List.set_cons_succ])
              refine wpAnyH_take (i := 34) (oi := { dst := some 55, op := Op.binOp BinOp.geq 3 (Operand.tmp 49) (Operand.tmp 54) 3, type := 4, pos := "core.go:226", after := #[{ on := 28, ground := Ground.data }, { on := 33, ground := Ground.data }, { on := 22, ground := Ground.guard }], guard := some (22, true) }) (v := undef) rfl (by kernel_rfl) (by kernel_rfl) (by kernel_rfl) (fun _ _ _ h => h) (Or.inr ⟨by kernel_rfl, rfl⟩) (by assumption) ?_
              (try simp only [Act.put, List.setIfInBounds_toArray, List.set_cons_zero, List.set_cons_succ])
              refine wpAnyH_take (i := 35) (oi := { dst := some 56, op := Op.pick (Operand.tmp 43) (Operand.tmp 55) (Operand.const (Value.bool false)), type := 4, pos := "core.go:226", after := #[{ on := 22, ground := Ground.data }, { on := 34, ground := Ground.data }, { on := 14, ground := Ground.guard }], guard := some (14, false) }) (v := ?_) rfl (by kernel_rfl) (by kernel_rfl) (by kernel_rfl) (fun _ _ _ h => h) (Or.inl ⟨by rfl, ?_⟩) (by assumption) ?_
              rotate_left 1
              · intro w hSw; (try dsimp only at hSw); go_simp; (try with_reducible rfl)
              (try simp only [Act.put, List.setIfInBounds_toArray, List.set_cons_zero, List.set_cons_succ])
              refine wpAnyH_take (i := 36) (oi := { dst := some 57, op := Op.pick (Operand.tmp 35) (Operand.const (Value.bool true)) (Operand.tmp 56), type := 4, pos := "core.go:226", after := #[{ on := 14, ground := Ground.data }, { on := 35, ground := Ground.data }], guard := none }) (v := ?_) rfl (by kernel_rfl) (by kernel_rfl) (by kernel_rfl) (fun _ _ _ h => h) (Or.inl ⟨by rfl, ?_⟩) (by assumption) ?_
              rotate_left 1
              · intro w hSw; (try dsimp only at hSw); go_simp; (try with_reducible rfl)
              (try simp only [Act.put, List.setIfInBounds_toArray, List.set_cons_zero, List.set_cons_succ])
              refine wpAnyH_done (by kernel_rfl) ?_ _
              go_wp2_with fail
              go_roundg (gk - 1)
              case measure => have := hi.out; have := HI.out; omega
              case rel => exact ⟨i + 1, Go.Lib.hid (by have := hi.out; have := HI.out; omega), by go_num, Go.Lib.hid (HGO.out (by rw [HKD.out]; rfl)), hNew.2.2.2⟩
            · have z1 : ((rd_T28 t (k : Int)).f0 == 2) = false := beq_eq_false_iff_ne.2 hz
              have z2 : ((rd_T28 t (k : Int)).f0 != 2) = true := by simp [hz]
              rw [decide_eq_true (show (rd_T28 t (k : Int)).f0 ≠ 2 from hz)] at HKD
              clear hz
              clear hkk hkt hlk hlt x0 x1 x2 x3 x4 hk q0
              go_wp2_with fail
              refine wp_region_held_drew (S := fun w' => w'.cell? ⟨w.heap.size, 0, none⟩ = some (.int .i64 x.f0) ∧ w'.cell? ⟨w.heap.size, 3, none⟩ = some (.slice (some ad) x.f3.length c3) ∧ w'.cell? (ad.add i) = some (.int .i64 (k : Int)) ∧ Hid (Kx w x A2 c2 (some ad) c3 A4 c4 w')) (by kernel_rfl) (HQ.out.below (below_drew (Below.refl _ _))) (fun hHeld => ?_)
              refine wpAnyH_take (i := 0) (oi := { dst := some 21, op := Op.fieldAddr 28 (Operand.tmp 2) 0, type := 0, pos := "core.go:226", after := #[], guard := none }) (v := ?_) rfl (by kernel_rfl) (by kernel_rfl) (by kernel_rfl) (fun _ _ _ h => h) (Or.inl ⟨by rfl, ?_⟩) (by assumption) ?_
              rotate_left 1
              · intro w hSw; (try dsimp only at hSw); go_simp; (try with_reducible rfl)
              (try simp only [Act.put, List.setIfInBounds_toArray, List.set_cons_zero, List.set_cons_succ])
              refine wpAnyH_take (i := 1) (oi := { dst := some 22, op := Op.load 3 (Operand.tmp 21), type := 3, pos := "core.go:226", after := #[{ on := 0, ground := Ground.data }], guard := none }) (v := ?_) rfl (by kernel_rfl) (by kernel_rfl) (by kernel_rfl) (fun _ _ _ h => h) (Or.inl ⟨by rfl, ?_⟩) (by assumption) ?_
              rotate_left 1
              · intro w hSw; (try dsimp only at hSw); go_simp; (try with_reducible rfl)
              (try simp only [Act.put, List.setIfInBounds_toArray, List.set_cons_zero, List.set_cons_succ])
              refine wpAnyH_take (i := 2) (oi := { dst := some 23, op := Op.binOp BinOp.eql 3 (Operand.tmp 22) (Operand.const (Value.int IntKind.i64 5)) 3, type := 4, pos := "core.go:226", after := #[{ on := 1, ground := Ground.data }], guard := none }) (v := ?_) rfl (by kernel_rfl) (by kernel_rfl) (by kernel_rfl) (fun _ _ _ h => h) (Or.inl ⟨by rfl, ?_⟩) (by assumption) ?_
              rotate_left 1
              · intro w hSw; (try dsimp only at hSw); go_simp; (try with_reducible rfl)
              (try simp only [Act.put, List.setIfInBounds_toArray, List.set_cons_zero, List.set_cons_succ])
              refine wpAnyH_take (i := 3) (oi := { dst := some 24, op := Op.move (Operand.tmp 23), type := 4, pos := "core.go:226", after := #[{ on := 2, ground := Ground.data }], guard := none }) (v := ?_) rfl (by kernel_rfl) (by kernel_rfl) (by kernel_rfl) (fun _ _ _ h => h) (Or.inl ⟨by rfl, ?_⟩) (by assumption) ?_
              rotate_left 1
              · intro w hSw; (try dsimp only at hSw); go_simp; (try with_reducible rfl)
              (try simp only [Act.put, List.setIfInBounds_toArray, List.set_cons_zero, List.set_cons_succ])
              refine wpAnyH_take (i := 4) (oi := { dst := some 25, op := Op.move (Operand.tmp 1), type := 109, pos := "core.go:226", after := #[{ on := 3, ground := Ground.guard }], guard := some (3, true) }) (v := ?_) rfl (by kernel_rfl) (by kernel_rfl) (by kernel_rfl) (fun _ _ _ h => h) (Or.inl ⟨by rfl, ?_⟩) (by assumption) ?_
              rotate_left 1
              · intro w hSw; (try dsimp only at hSw); go_simp; (try with_reducible rfl)
              (try simp only [Act.put, List.setIfInBounds_toArray, List.set_cons_zero, List.set_cons_succ])
              refine wpAnyH_take (i := 5) (oi := { dst := some 26, op := Op.fieldAddr 28 (Operand.tmp 2) 3, type := 0, pos := "core.go:226", after := #[{ on := 3, ground := Ground.guard }], guard := some (3, true) }) (v := ?_) rfl (by kernel_rfl) (by kernel_rfl) (by kernel_rfl) (fun _ _ _ h => h) (Or.inl ⟨by rfl, ?_⟩) (by assumption) ?_
              rotate_left 1
              · intro w hSw; (try dsimp only at hSw); go_simp; (try with_reducible rfl)
              (try simp only [Act.put, List.setIfInBounds_toArray, List.set_cons_zero, List.set_cons_succ])
              refine wpAnyH_take (i := 6) (oi := { dst := some 27, op := Op.load 25 (Operand.tmp 26), type := 25, pos := "core.go:226", after := #[{ on := 5, ground := Ground.data }, { on := 3, ground := Ground.guard }], guard := some (3, true) }) (v := ?_) rfl (by kernel_rfl) (by kernel_rfl) (by kernel_rfl) (fun _ _ _ h => h) (Or.inl ⟨by rfl, ?_⟩) (by assumption) ?_
              rotate_left 1
              · intro w hSw; (try dsimp only at hSw); go_simp; (try with_reducible rfl)
              (try simp only [Act.put, List.setIfInBounds_toArray, List.set_cons_zero, List.set_cons_succ])
              refine wpAnyH_take (i := 7) (oi := { dst := some 28, op := Op.move (Operand.tmp 6), type := 3, pos := "core.go:226", after := #[{ on := 3, ground := Ground.guard }], guard := some (3, true) }) (v := ?_) rfl (by kernel_rfl) (by kernel_rfl) (by kernel_rfl) (fun _ _ _ h => h) (Or.inl ⟨by rfl, ?_⟩) (by assumption) ?_
              rotate_left 1
              · intro w hSw; (try dsimp only at hSw); go_simp; (try with_reducible rfl)
              (try simp only [Act.put, List.setIfInBounds_toArray, List.set_cons_zero, List.set_cons_succ])
              refine wpAnyH_take (i := 8) (oi := { dst := some 29, op := Op.indexAddr 25 (Operand.tmp 27) (Operand.tmp 28), type := 0, pos := "core.go:226", after := #[{ on := 6, ground := Ground.data }, { on := 7, ground := Ground.data }, { on := 3, ground := Ground.guard }], guard := some (3, true) }) (v := ?_) rfl (by kernel_rfl) (by kernel_rfl) (by kernel_rfl) (fun _ _ _ h => h) (Or.inl ⟨by rfl, ?_⟩) (by assumption) ?_
              rotate_left 1
              · intro w hSw; (try dsimp only at hSw); go_simp; (try with_reducible rfl)
              (try simp only [Act.put, List.setIfInBounds_toArray, List.set_cons_zero, List.set_cons_succ])
              refine wpAnyH_take (i := 9) (oi := { dst := some 30, op := Op.load 3 (Operand.tmp 29), type := 3, pos := "core.go:226", after := #[{ on := 8, ground := Ground.data }, { on := 3, ground := Ground.guard }], guard := some (3, true) }) (v := ?_) rfl (by kernel_rfl) (by kernel_rfl) (by kernel_rfl) (fun _ _ _ h => h) (Or.inl ⟨by rfl, ?_⟩) (by assumption) ?_
              rotate_left 1
              · intro w hSw; (try dsimp only at hSw); go_simp; (try with_reducible rfl)
              (try simp only [Act.put, List.setIfInBounds_toArray, List.set_cons_zero, List.set_cons_succ])
              refine wpAnyH_ready (rs := [10]) (by kernel_rfl) (by simp) ?_
              refine AllReadyH.cons (o := { dst := some 31, op := Op.call { callee := Callee.value (Operand.tmp 25), args := #[Operand.tmp 30], argTypes := #[3] }, type := 28, pos := "core.go:226", after := #[{ on := 4, ground := Ground.data }, { on := 9, ground := Ground.data }, { on := 3, ground := Ground.chain }, { on := 3, ground := Ground.guard }], guard := some (3, true) }) rfl (fun K hK => ?_) AllReadyH.nil
              go_simp
              (go_at_call 72; refine (kid_arm HKT HR HG (show Kq w x A2 (some ad) A4 c2 c3 c4 ad i (k : Int) _ from ‹_ ∧ _ ∧ _ ∧ Hid (Kx w x A2 c2 (some ad) c3 A4 c4 _)›)).mono ?_; rintro e wn ⟨B2, d2, B3, d3, B4, d4, rfl, hNew⟩)
              refine hK.out _ _ (hNew) (fun hHeld => ?_)
              clear hK K
              (try simp only [Act.put, List.setIfInBounds_toArray, List.set_cons_zero, List.set_cons_succ])
              refine wpAnyH_take (i := 11) (oi := { dst := some 32, op := Op.field 28 (Operand.tmp 31) 0, type := 3, pos := "core.go:226", after := #[{ on := 10, ground := Ground.data }, { on := 3, ground := Ground.guard }], guard := some (3, true) }) (v := ?_) rfl (by kernel_rfl) (by kernel_rfl) (by kernel_rfl) (fun _ _ _ h => h) (Or.inl ⟨by rfl, ?_⟩) (by assumption) ?_
              rotate_left 1
              · intro w hSw; (try dsimp only at hSw); go_simp; (try with_reducible rfl)
              (try simp only [Act.put, List.setIfInBounds_toArray, List.set_cons_zero, List.set_cons_succ])
              refine wpAnyH_take (i := 12) (oi := { dst := some 33, op := Op.binOp BinOp.neq 3 (Operand.tmp 32) (Operand.const (Value.int IntKind.i64 2)) 3, type := 4, pos := "core.go:226", after := #[{ on := 11, ground := Ground.data }, { on := 3, ground := Ground.guard }], guard := some (3, true) }) (v := ?_) rfl (by kernel_rfl) (by kernel_rfl) (by kernel_rfl) (fun _ _ _ h => h) (Or.inl ⟨by rfl, ?_⟩) (by assumption) ?_
              rotate_left 1
              · intro w hSw; (try dsimp only at hSw); go_simp; (try with_reducible rfl)
              (try simp only [Act.put, List.setIfInBounds_toArray, List.set_cons_zero, List.set_cons_succ])
              refine wpAnyH_take (i := 13) (oi := { dst := some 34, op := Op.pick (Operand.tmp 24) (Operand.tmp 33) (Operand.const (Value.bool false)), type := 4, pos := "core.go:226", after := #[{ on := 3, ground := Ground.data }, { on := 12, ground := Ground.data }], guard := none }) (v := ?_) rfl (by kernel_rfl) (by kernel_rfl) (by kernel_rfl) (fun _ _ _ h => h) (Or.inl ⟨by rfl, ?_⟩) (by assumption) ?_
              rotate_left 1
              · intro w hSw; (try dsimp only at hSw); go_simp; (try with_reducible rfl)
              (try simp only [Act.put, List.setIfInBounds_toArray, List.set_cons_zero, List.set_cons_succ])
              refine wpAnyH_take (i := 14) (oi := { dst := some 35, op := Op.move (Operand.tmp 34), type := 4, pos := "core.go:226", after := #[{ on := 13, ground := Ground.data }, { on := 10, ground := Ground.chain }], guard := none }) (v := ?_) rfl (by kernel_rfl) (by kernel_rfl) (by kernel_rfl) (fun _ _ _ h => h) (Or.inl ⟨by rfl, ?_⟩) (by assumption) ?_
              rotate_left 1
              · intro w hSw; (try dsimp only at hSw); go_simp; (try with_reducible rfl)
              (try simp only [Act.put, List.setIfInBounds_toArray, List.set_cons_zero, List.set_cons_succ])
              refine wpAnyH_take (i := 15) (oi := { dst := some 36, op := Op.fieldAddr 28 (Operand.tmp 2) 0, type := 0, pos := "core.go:226", after := #[{ on := 14, ground := Ground.guard }], guard := some (14, false) }) (v := undef) rfl (by kernel_rfl) (by kernel_rfl) (by kernel_rfl) (fun _ _ _ h => h) (Or.inr ⟨by kernel_rfl, rfl⟩) (by assumption) ?_
              (try simp only [Act.put, List.setIfInBounds_toArray, List.set_cons_zero, List.set_cons_succ])
              refine wpAnyH_take (i := 16) (oi := { dst := some 37, op := Op.load 3 (Operand.tmp 36), type := 3, pos := "core.go:226", after := #[{ on := 15, ground := Ground.data }, { on := 14, ground := Ground.guard }], guard := some (14, false) }) (v := undef) rfl (by kernel_rfl) (by kernel_rfl) (by kernel_rfl) (fun _ _ _ h => h) (Or.inr ⟨by kernel_rfl, rfl⟩) (by assumption) ?_
              (try simp only [Act.put, List.setIfInBounds_toArray, List.set_cons_zero, List.set_cons_succ])
              refine wpAnyH_take (i := 17) (oi := { dst := some 38, op := Op.binOp BinOp.eql 3 (Operand.tmp 37) (Operand.const (Value.int IntKind.i64 9)) 3, type := 4, pos := "core.go:226", after := #[{ on := 16, ground := Ground.data }, { on := 14, ground := Ground.guard }], guard := some (14, false) }) (v := undef) rfl (by kernel_rfl) (by kernel_rfl) (by kernel_rfl) (fun _ _ _ h => h) (Or.inr ⟨by kernel_rfl, rfl⟩) (by assumption) ?_
              (try simp only [Act.put, List.setIfInBounds_toArray, List.set_cons_zero, List.set_cons_succ])
              refine wpAnyH_take (i := 18) (oi := { dst := some 39, op := Op.move (Operand.tmp 38), type := 4, pos := "core.go:226", after := #[{ on := 17, ground := Ground.data }, { on := 14, ground := Ground.chain }, { on := 14, ground := Ground.guard }], guard := some (14, false) }) (v := undef) rfl (by kernel_rfl) (by kernel_rfl) (by kernel_rfl) (fun _ _ _ h => h) (Or.inr ⟨by kernel_rfl, rfl⟩) (by assumption) ?_
              (try simp only [Act.put, List.setIfInBounds_toArray, List.set_cons_zero, List.set_cons_succ])
              refine wpAnyH_take (i := 19) (oi := { dst := some 40, op := Op.move (Operand.tmp 6), type := 3, pos := "core.go:226", after := #[{ on := 18, ground := Ground.guard }], guard := some (18, true) }) (v := undef) rfl (by kernel_rfl) (by kernel_rfl) (by kernel_rfl) (fun _ _ _ h => h) (Or.inr ⟨by kernel_rfl, rfl⟩) (by assumption) ?_
              (try simp only [Act.put, List.setIfInBounds_toArray, List.set_cons_zero, List.set_cons_succ])
              refine wpAnyH_take (i := 20) (oi := { dst := some 41, op := Op.binOp BinOp.gtr 3 (Operand.tmp 40) (Operand.const (Value.int IntKind.i64 0)) 3, type := 4, pos := "core.go:226", after := #[{ on := 19, ground := Ground.data }, { on := 18, ground := Ground.guard }], guard := some (18, true) }) (v := undef) rfl (by kernel_rfl) (by kernel_rfl) (by kernel_rfl) (fun _ _ _ h => h) (Or.inr ⟨by kernel_rfl, rfl⟩) (by assumption) ?_
              (try simp only [Act.put, List.setIfInBounds_toArray, List.set_cons_zero, List.set_cons_succ])
              refine wpAnyH_take (i := 21) (oi := { dst := some 42, op := Op.pick (Operand.tmp 39) (Operand.tmp 41) (Operand.const (Value.bool false)), type := 4, pos := "core.go:226", after := #[{ on := 18, ground := Ground.data }, { on := 20, ground := Ground.data }, { on := 14, ground := Ground.guard }], guard := some (14, false) }) (v := undef) rfl (by kernel_rfl) (by kernel_rfl) (by kernel_rfl) (fun _ _ _ h => h) (Or.inr ⟨by kernel_rfl, rfl⟩) (by assumption) ?_
              (try simp only [Act.put, List.setIfInBounds_toArray, List.set_cons_zero, List.set_cons_succ])
              refine wpAnyH_take (i := 22) (oi := { dst := some 43, op := Op.move (Operand.tmp 42), type := 4, pos := "core.go:226", after := #[{ on := 21, ground := Ground.data }, { on := 18, ground := Ground.chain }, { on := 14, ground := Ground.guard }], guard := some (14, false) }) (v := undef) rfl (by kernel_rfl) (by kernel_rfl) (by kernel_rfl) (fun _ _ _ h => h) (Or.inr ⟨by kernel_rfl, rfl⟩) (by assumption) ?_
              (try simp only [Act.put, List.setIfInBounds_toArray, List.set_cons_zero, List.set_cons_succ])
              refine wpAnyH_take (i := 23) (oi := { dst := some 44, op := Op.fieldAddr 28 (Operand.tmp 2) 2, type := 0, pos := "core.go:226", after := #[{ on := 22, ground := Ground.guard }], guard := some (22, true) }) (v := undef) rfl (by kernel_rfl) (by kernel_rfl) (by kernel_rfl) (fun _ _ _ h => h) (Or.inr ⟨by kernel_rfl, rfl⟩) (by assumption) ?_
              (try simp only [Act.put, List.setIfInBounds_toArray, List.set_cons_zero, List.set_cons_succ])
              refine wpAnyH_take (i := 24) (oi := { dst := some 45, op := Op.load 25 (Operand.tmp 44), type := 25, pos := "core.go:226", after := #[{ on := 23, ground := Ground.data }, { on := 22, ground := Ground.guard }], guard := some (22, true) }) (v := undef) rfl (by kernel_rfl) (by kernel_rfl) (by kernel_rfl) (fun _ _ _ h => h) (Or.inr ⟨by kernel_rfl, rfl⟩) (by assumption) ?_
              (try simp only [Act.put, List.setIfInBounds_toArray, List.set_cons_zero, List.set_cons_succ])
              refine wpAnyH_take (i := 25) (oi := { dst := some 46, op := Op.move (Operand.tmp 6), type := 3, pos := "core.go:226", after := #[{ on := 22, ground := Ground.guard }], guard := some (22, true) }) (v := undef) rfl (by kernel_rfl) (by kernel_rfl) (by kernel_rfl) (fun _ _ _ h => h) (Or.inr ⟨by kernel_rfl, rfl⟩) (by assumption) ?_
              (try simp only [Act.put, List.setIfInBounds_toArray, List.set_cons_zero, List.set_cons_succ])
              refine wpAnyH_take (i := 26) (oi := { dst := some 47, op := Op.binOp BinOp.sub 3 (Operand.tmp 46) (Operand.const (Value.int IntKind.i64 1)) 3, type := 3, pos := "core.go:226", after := #[{ on := 25, ground := Ground.data }, { on := 22, ground := Ground.guard }], guard := some (22, true) }) (v := undef) rfl (by kernel_rfl) (by kernel_rfl) (by kernel_rfl) (fun _ _ _ h => h) (Or.inr ⟨by kernel_rfl, rfl⟩) (by assumption) ?_
              (try simp only [Act.put, List.setIfInBounds_toArray, List.set_cons_zero, List.set_cons_succ])
              refine wpAnyH_take (i := 27) (oi := { dst := some 48, op := Op.indexAddr 25 (Operand.tmp 45) (Operand.tmp 47), type := 0, pos := "core.go:226", after := #[{ on := 24, ground := Ground.data }, { on := 26, ground := Ground.data }, { on := 22, ground := Ground.guard }], guard := some (22, true) }) (v := undef) rfl (by kernel_rfl) (by kernel_rfl) (by kernel_rfl) (fun _ _ _ h => h) (Or.inr ⟨by kernel_rfl, rfl⟩) (by assumption) ?_
              (try simp only [Act.put, List.setIfInBounds_toArray, List.set_cons_zero, List.set_cons_succ])
              refine wpAnyH_take (i := 28) (oi := { dst := some 49, op := Op.load 3 (Operand.tmp 48), type := 3, pos := "core.go:226", after := #[{ on := 27, ground := Ground.data }, { on := 22, ground := Ground.guard }], guard := some (22, true) }) (v := undef) rfl (by kernel_rfl) (by kernel_rfl) (by kernel_rfl) (fun _ _ _ h => h) (Or.inr ⟨by kernel_rfl, rfl⟩) (by assumption) ?_
              (try simp only [Act.put, List.setIfInBounds_toArray, List.set_cons_zero, List.set_cons_succ])
              refine wpAnyH_take (i := 29) (oi := { dst := some 50, op := Op.fieldAddr 28 (Operand.tmp 2) 2, type := 0, pos := "core.go:226", after := #[{ on := 22, ground := Ground.guard }], guard := some (22, true) }) (v := undef) rfl (by kernel_rfl) (by kernel_rfl) (by kernel_rfl) (fun _ _ _ h => h) (Or.inr ⟨by kernel_rfl, rfl⟩) (by assumption) ?_
              (try simp only [Act.put, List.setIfInBounds_toArray, List.set_cons_zero, List.set_cons_succ])
              refine wpAnyH_take (i := 30) (oi := { dst := some 51, op := Op.load 25 (Operand.tmp 50), type := 25, pos := "core.go:226", after := #[{ on := 29, ground := Ground.data }, { on := 22, ground := Ground.guard }], guard := some (22, true) }) (v := undef) rfl (by kernel_rfl) (by kernel_rfl) (by kernel_rfl) (fun _ _ _ h => h) (Or.inr ⟨by kernel_rfl, rfl⟩) (by assumption) ?_
              (try simp only [Act.put, List.setIfInBounds_toArray, List.set_cons_zero, List.set_cons_succ])
              refine wpAnyH_take (i := 31) (oi := { dst := some 52, op := Op.move (Operand.tmp 6), type := 3, pos := "core.go:226", after := #[{ on := 22, ground := Ground.guard }], guard := some (22, true) }) (v := undef) rfl (by kernel_rfl) (by kernel_rfl) (by kernel_rfl) (fun _ _ _ h => h) (Or.inr ⟨by kernel_rfl, rfl⟩) (by assumption) ?_
              (try simp only [Act.put, List.setIfInBounds_toArray, List.set_cons_zero, List.set_cons_succ])
              refine wpAnyH_take (i := 32) (oi := { dst := some 53, op := Op.indexAddr 25 (Operand.tmp 51) (Operand.tmp 52), type := 0, pos := "core.go:226", after := #[{ on := 30, ground := Ground.data }, { on := 31, ground := Ground.data }, { on := 22, ground := Ground.guard }], guard := some (22, true) }) (v := undef) rfl (by kernel_rfl) (by kernel_rfl) (by kernel_rfl) (fun _ _ _ h => h) (Or.inr ⟨by kernel_rfl, rfl⟩) (by assumption) ?_
              (try simp only [Act.put, List.setIfInBounds_toArray, List.set_cons_zero, List.set_cons_succ])
              refine wpAnyH_take (i := 33) (oi := { dst := some 54, op := Op.load 3 (Operand.tmp 53), type := 3, pos := "core.go:226", after := #[{ on := 32, ground := Ground.data }, { on := 22, ground := Ground.guard }], guard := some (22, true) }) (v := undef) rfl (by kernel_rfl) (by kernel_rfl) (by kernel_rfl) (fun _ _ _ h => h) (Or.inr ⟨by kernel_rfl, rfl⟩) (by assumption) ?_
              (try simp only [Act.put, List.setIfInBounds_toArray, List.set_cons_zero, List.set_cons_succ])
              refine wpAnyH_take (i := 34) (oi := { dst := some 55, op := Op.binOp BinOp.geq 3 (Operand.tmp 49) (Operand.tmp 54) 3, type := 4, pos := "core.go:226", after := #[{ on := 28, ground := Ground.data }, { on := 33, ground := Ground.data }, { on := 22, ground := Ground.guard }], guard := some (22, true) }) (v := undef) rfl (by kernel_rfl) (by kernel_rfl) (by kernel_rfl) (fun _ _ _ h => h) (Or.inr ⟨by kernel_rfl, rfl⟩) (by assumption) ?_
              (try simp only [Act.put, List.setIfInBounds_toArray, List.set_cons_zero, List.set_cons_succ])
              refine wpAnyH_take (i := 35) (oi := { dst := some 56, op := Op.pick (Operand.tmp 43) (Operand.tmp 55) (Operand.const (Value.bool false)), type := 4, pos := "core.go:226", after := #[{ on := 22, ground := Ground.data }, { on := 34, ground := Ground.data }, { on := 14, ground := Ground.guard }], guard := some (14, false) }) (v := undef) rfl (by kernel_rfl) (by kernel_rfl) (by kernel_rfl) (fun _ _ _ h => h) (Or.inr ⟨by kernel_rfl, rfl⟩) (by assumption) ?_
              (try simp only [Act.put, List.setIfInBounds_toArray, List.set_cons_zero, List.set_cons_succ])
              refine wpAnyH_take (i := 36) (oi := { dst := some 57, op := Op.pick (Operand.tmp 35) (Operand.const (Value.bool true)) (Operand.tmp 56), type := 4, pos := "core.go:226", after := #[{ on := 14, ground := Ground.data }, { on := 35, ground := Ground.data }], guard := none }) (v := ?_) rfl (by kernel_rfl) (by kernel_rfl) (by kernel_rfl) (fun _ _ _ h => h) (Or.inl ⟨by rfl, ?_⟩) (by assumption) ?_
              rotate_left 1
              · intro w hSw; (try dsimp only at hSw); go_simp; (try with_reducible rfl)
              (try simp only [Act.put, List.setIfInBounds_toArray, List.set_cons_zero, List.set_cons_succ])
              refine wpAnyH_done (by kernel_rfl) ?_ _
              have HV := Go.Lib.hid (NoP.mk (HBAD.out (by rw [HKD.out]; rfl)) hNew.2.2.2.out.b)
              go_wp2_with fail
              go_ret
              exact HV.out
          · by_cases h9 : x.f0 = 9
            · have e5 : (x.f0 == 5) = false := beq_eq_false_iff_ne.2 (by omega)
              have e9 : (x.f0 == 9) = true := beq_iff_eq.2 h9
              rw [decide_eq_false h5, decide_eq_true h9, Bool.false_and, Bool.true_and, Bool.false_or] at HKD
              clear h5 h9
              by_cases h0 : 0 < i
              · have h0' : decide ((0 : Int) < (i : Int)) = true := decide_eq_true (by omega)
                have h0'' : decide (0 < i) = true := decide_eq_true h0
                have hp0 : (0 : Int) ≤ (i : Int) - 1 := by omega
                have hp1 : (i : Int) - 1 < (x.f2.length : Int) := by omega
                have hp2 : (1 : Int) ≤ (i : Int) := by omega
                have hpn : ((i : Int) - 1).toNat = i - 1 := by omega
                obtain ⟨ad, e_, q0⟩ := Kd.at_int (Kd.C_below HN.out.g2 hk.out.b) (i : Int) hi0 hlt'
                cases e_
                obtain ⟨ad', e_, q1⟩ := Kd.at_int (Kd.C_below HN.out.g2 hk.out.b) ((i : Int) - 1) hp0 hp1
                cases e_
                rw [Int.toNat_natCast] at q0
                rw [decide_eq_true h0, Bool.true_and] at HKD
                have hwr : IntKind.i64.wrap ((i : Int) - 1) = (i : Int) - 1 := IntWalk.i64_in _ (by omega)
                generalize rd x.f2 (i : Int) = y at q0 HKD
                generalize rd x.f2 ((i : Int) - 1) = z at q1 HKD
                rw [hpn] at q1
                clear h0 hlt
                by_cases hyz : y ≤ z
                · have d1 : decide (z ≥ y) = true := decide_eq_true hyz
                  have d2 : decide (y ≤ z) = true := decide_eq_true hyz
                  rw [d2] at HKD
                  clear hyz
                  go_wp2_with fail
                  go_quiet (fail)
                  go_wp2_with fail
                  go_ret
                  exact NoP.mk (HBAD.out (by rw [HKD.out]; rfl)) (below_dn hk.out.b _)
                · have d1 : decide (z ≥ y) = false := decide_eq_false hyz
                  have d2 : decide (y ≤ z) = false := decide_eq_false hyz
                  rw [d2] at HKD
                  clear hyz
                  go_wp2_with fail
                  go_quiet (fail)
                  go_wp2_with fail
                  go_roundg (gk - 1)
                  case measure => have := hi.out; have := HI.out; omega
                  case rel => exact ⟨i + 1, Go.Lib.hid (by have := hi.out; have := HI.out; omega), by go_num, Go.Lib.hid (HGO.out (by rw [HKD.out]; rfl)), Go.Lib.hid (hk.out.below (below_dn (Below.refl _ _) _))⟩
              · have h0' : decide ((0 : Int) < (i : Int)) = false := decide_eq_false (by omega)
                have h0'' : decide (0 < i) = false := decide_eq_false h0
                rw [decide_eq_false h0, Bool.false_and] at HKD
                clear h0 hlt
                go_wp2_with fail
                go_quiet (fail)
                go_wp2_with fail
                go_roundg (gk - 1)
                case measure => have := hi.out; have := HI.out; omega
                case rel => exact ⟨i + 1, Go.Lib.hid (by have := hi.out; have := HI.out; omega), by go_num, Go.Lib.hid (HGO.out (by rw [HKD.out]; rfl)), Go.Lib.hid (hk.out.below (below_dn (Below.refl _ _) _))⟩
            · have e5 : (x.f0 == 5) = false := beq_eq_false_iff_ne.2 h5
              have e9 : (x.f0 == 9) = false := beq_eq_false_iff_ne.2 h9
              rw [decide_eq_false h5, decide_eq_false h9, Bool.false_and, Bool.false_and, Bool.false_or] at HKD
              clear h5 h9 hlt
              go_wp2_with fail
              go_quiet (fail)
              go_wp2_with fail
              go_roundg (gk - 1)
              case measure => have := hi.out; have := HI.out; omega
              case rel => exact ⟨i + 1, Go.Lib.hid (by have := hi.out; have := HI.out; omega), by go_num, Go.Lib.hid (HGO.out (by rw [HKD.out]; rfl)), Go.Lib.hid (hk.out.below (below_dn (Below.refl _ _) _))⟩
        · have hd : decide ((i : Int) < (x.f2.length : Int)) = false := decide_eq_false (by omega)
          have hd2 : decide (i < x.f2.length) = false := decide_eq_false hlt
          have hkb : kidsB t x = true := by
            unfold kidsB; rw [List.all_eq_true]; intro j hj; exact ha.out j (by have := List.mem_range.1 hj; omega)
          have HV := Go.Lib.hid (NoP.mk (t := t) (x := x) (w := w) (v := 0) (by unfold nodeErrP; rw [HSB.out, if_pos rfl, if_pos HNE.out, hkb]; rfl) hk.out.b)
          clear hkb
          clear hlt ha hi
          go_wp2_with fail
          go_ret
          exact HV.out
    · have hb : (numErr x == 0) = false := beq_eq_false_iff_ne.2 hne
      have hb1 : (numErr x != 0) = true := by simp [hne]
      have HV := Go.Lib.hid (NoP.mk (t := t) (x := x) (w := w) (by unfold nodeErrP; rw [HSB.out, if_pos rfl, if_neg hne]) HK2.out.b)
      clear hne
      go_wp2_with fail
      go_ret
      exact HV.out
end Go.Proofs.YtjhinklijopobaaDoor.Co
namespace Go.Proofs.YtjhinklijopobaaDoor.Co
open Go.RowKit Go.Proofs.YtjhinklijopobaaDoor.PCoreChecks Go.Proofs.YtjhinklijopobaaDoorW.PrintWords Go.Proofs.YtjhinklijopobaaDoorW.PrintLast Go.Proofs.YtjhinklijopobaaDoorW.PrintMore
set_option linter.unusedVariables false
set_option linter.unusedSimpArgs false

/-! ### What a node of a tree binds -/
/-- A block with a node of a tree. -/
def Tb (w : World) (b : Nat) (op n : Int) (v2 v3 v4 : Value) : Prop := w.heap[b]? = some (.cells #[.int .i64 op, .int .i64 n, v2, v3, v4] 95 (0, 0))
theorem Tb.cells {w : World} {b : Nat} {op n : Int} {v2 v3 v4 : Value} (h : Tb w b op n v2 v3 v4) : w.cell? ⟨b, 0, none⟩ = some (.int .i64 op) ∧ w.cell? ⟨b, 1, none⟩ = some (.int .i64 n) ∧ w.cell? ⟨b, 2, none⟩ = some v2 ∧ w.cell? ⟨b, 3, none⟩ = some v3 ∧ w.cell? ⟨b, 4, none⟩ = some v4 :=
  ⟨(blk_cell h 0).trans rfl, (blk_cell h 1).trans rfl, (blk_cell h 2).trans rfl, (blk_cell h 3).trans rfl, (blk_cell h 4).trans rfl⟩
theorem Tb.below {w w' : World} {b : Nat} {op n : Int} {v2 v3 v4 : Value} (h : Tb w b op n v2 v3 v4) (hb : Below w.heap.size w w') : Tb w' b op n v2 v3 v4 := blk_below h hb
/-- A row of the call's own while it grows. -/
structure Bo (w : World) (v : Value) (l : List Int) (W : World) : Prop where
  b : Below w.heap.size w W
  own : W.ownsRow w.heap.size 3 1 v l.length (encs (Value.int .i64) l)
theorem Bo.nil (w : World) : Bo w (.slice none 0 0) [] w := ⟨Below.refl _ _, own_nil _ _ _ _⟩
theorem Bo.lift {w W W' : World} {v : Value} {l : List Int} (h : Bo w v l W) (hb : Below W.heap.size W W') : Bo w v l W' := ⟨below_step h.b hb, pw_own_below h.own hb⟩
theorem Bo.row {w W : World} {A : Option Addr} {c : Nat} {l : List Int} (h : Bo w (.slice A l.length c) l W) : RowP l w (.returned (.slice A l.length c)) W := by
  obtain ⟨A1, c1, e, h2, _⟩ := own_reads_of_le (d := (0 : Int)) h.own
  cases e
  exact ⟨A, c, rfl, h2, Kd.C_of_reads (d := 0) (h1 := fun _ => rfl) (own_reads_of' h.own), h.b⟩
theorem RowP.of {l l' : List Int} {w w' : World} {e : Ending} (h : RowP l w e w') (he : l = l') : RowP l' w e w' := he ▸ h
/-- The identifiers that a node binds itself, ahead of its alternatives. -/
def ownB (op : Int) (bs : List Int) : List Int := if op = 2 ∨ op = 4 ∨ op = 5 then bs else []
theorem bindsOf_eq (x : S28) : bindsOf x = ownB x.f0 x.f2 ++ x.f4.flatMap S86.f1 := rfl
theorem ownB_len {op : Int} {bs : List Int} (h : bs.length ≤ 16) : (ownB op bs).length ≤ 16 := by
  unfold ownB; split
  · exact h
  · simp
theorem flatA_snoc (al : List S86) (i : Nat) (h : i < al.length) : (al.take (i + 1)).flatMap S86.f1 = (al.take i).flatMap S86.f1 ++ (al[i]'h).f1 := by
  rw [List.take_succ_eq_append_getElem h, List.flatMap_append, List.flatMap_cons, List.flatMap_nil, List.append_nil]

set_option maxHeartbeats 8000000 in
set_option maxRecDepth 100000 in
theorem binders_calls (x : S28) (hx : Fit x) (b : Nat) (n : Int) (v3 : Value) (A2 A4 : Option Addr) (c2 c4 : Nat) (w : World) (hb : Tb w b x.f0 n (.slice A2 x.f2.length c2) v3 (.slice A4 x.f4.length c4)) (g2 : Kd.C (Kd.int .i64) w A2 x.f2.length x.f2) (g4 : Kd.C k86 w A4 x.f4.length x.f4) :
    Calls Tryd.prog 64 #[.pointer (some ⟨b, 0, none⟩)] w (RowP (bindsOf x) w) := by
  rw [bindsOf_eq]
  obtain ⟨op, n0, bs, ks, al⟩ := x
  simp only at hb g2 g4 ⊢
  have HX := Go.Lib.hid hx
  have HB := Go.Lib.hid hb
  have G2 := Go.Lib.hid (Kd.reads_of_C (d := (0 : Int)) g2)
  have G4 := Go.Lib.hid g4
  have hb9 : (bs.length : Int) ≤ 16 := by have := hx.b; simp only at this; omega
  have ha9 : (al.length : Int) ≤ 4096 := by have := hx.a; simp only at this; omega
  obtain ⟨t0, t1, t2, t3, t4⟩ := hb.cells
  have HB0 := Go.Lib.hid (Bo.nil w)
  have HOL := Go.Lib.hid (ownB_len (op := op) (bs := bs) (by omega))
  clear hx g2 g4 hb
  have h4 : (op = 2 ∨ op = 4 ∨ op = 5) ∨ ¬ (op = 2 ∨ op = 4 ∨ op = 5) := Classical.em _
  rcases h4 with h4 | h4
  rotate_left 1
  · have e2 : (op == 2) = false := beq_eq_false_iff_ne.2 (by omega)
    have e4 : (op == 4) = false := beq_eq_false_iff_ne.2 (by omega)
    have e5 : (op == 5) = false := beq_eq_false_iff_ne.2 (by omega)
    have HL := Go.Lib.hid (show ownB op bs = [] from if_neg h4)
    clear h4
    rw [HL.out, List.nil_append]
    go_enter Tryd.func64, Tryd.ntmps64
    go_wp2_with fail
    have HBO := HB0
    have HL0 := HL
    go_loopg [3, 36] al.length (fun g_ v3 v36 w' => ∃ (i : Nat) (l : List Int) (A : Option Addr) (c : Nat), Hid (i + g_ = al.length) ∧ v3 = .slice A l.length c ∧ v36 = .int .i64 i ∧ Hid (l = (al.take i).flatMap S86.f1) ∧ Hid (l.length ≤ 16 + i * 16) ∧ Hid (Bo w (.slice A l.length c) l w'))
    case atStart => exact ⟨0, [], none, 0, Go.Lib.hid (by omega), rfl, rfl, Go.Lib.hid (by simp), Go.Lib.hid (by simp), HBO⟩
    case round =>
      clear HBO t0 t1 t2 t3 t4
      obtain ⟨i, l, A, c, hi, rfl, rfl, hl, hll, hbo⟩ := hrel
      obtain ⟨wo, hwo⟩ : ∃ wo : World, wo = wr := ⟨_, rfl⟩
      subst hwo
      by_cases hlt : i < al.length
      · have hlt' : (i : Int) < (al.length : Int) := by omega
        have hi0 : (0 : Int) ≤ (i : Int) := by omega
        have HI := Go.Lib.hid hlt
        obtain ⟨ad, A1, c1, e_, p0, p1, q1, q2⟩ := at_T86 G4.out (i : Int) hi0 hlt'
        cases e_
        rw [rdA_nat al i hlt] at p0 p1 q1 q2
        rw [Int.toNat_natCast] at p0 p1
        replace p0 := pw_cell_below hbo.out.b p0
        replace p1 := pw_cell_below hbo.out.b p1
        have HSN := Go.Lib.hid (flatA_snoc al i hlt)
        have HAL := Go.Lib.hid (HX.out.ab _ (List.getElem_mem hlt))
        generalize al[i]'hlt = a at p0 p1 q1 q2 HSN HAL
        have HBX := Go.Lib.hid (hbo.out.lift (below_alloc (Below.refl _ _) (.cells #[.int .i64 a.f0, .slice A1 a.f1.length c1] 86)))
        obtain ⟨y0, y1⟩ := (Bxa.made wo a A1 c1).cells
        have HQ2 := Go.Lib.hid (Kd.reads_of_C (d := (0 : Int)) (Kd.C_below q2 HBX.out.b))
        have ha9' : (a.f1.length : Int) ≤ 16 := by have := HAL.out; omega
        clear hlt q1 q2 hbo
        go_wp2_with ((with_reducible refine gate_builtin (b := .append) (xs := #[.tmp 40, .tmp 42]) rfl ?_); at_builtin; refine print_append_row_of (w0 := w) (Value.int .i64) (0 : Int) w.heap.size rfl (.tmp 40) (.tmp 42) 25 3 (.int .i64 0) 8 rfl Tryd.underlying25 info3 rfl (by decide) (fun _ => rfl) (.slice A l.length c) l a.f1 A1 a.f1.length c1 rfl rfl ?q1 ?q2 ?q3 ?q4 ?q5 ?_; (case q1 => exact HBX.out.own); (case q2 => exact HQ2.out); (case q3 => exact HBX.out.b); (case q4 => exact HBX.out.b.size); (case q5 => have q1_ := hll.out; have q2_ := HAL.out; have q3_ := HI.out; omega); intro v1 w9 ho9 hb9 hg9 hat9; obtain ⟨A9, c9, rfl⟩ := own_slice ho9; have HB9 := Go.Lib.hid (Bo.mk hb9 ho9); clear ho9 hb9 hg9 hat9)
        go_roundg (gk - 1)
        case measure => have := hi.out; have := HI.out; omega
        case rel => exact ⟨i + 1, l ++ a.f1, A9, c9, Go.Lib.hid (by have := hi.out; have := HI.out; omega), by first | rfl | simp, by go_num, Go.Lib.hid (by rw [HSN.out, ← hl.out]), Go.Lib.hid (by rw [List.length_append]; have := hll.out; have := HAL.out; omega), HB9⟩
      · have hd : decide ((i : Int) < (al.length : Int)) = false := decide_eq_false (by omega)
        have hd2 : decide (i < al.length) = false := decide_eq_false hlt
        have HE := hl.out
        rw [List.take_of_length_le (by omega)] at HE
        have HV := Go.Lib.hid (hbo.out.row.of HE)
        clear HE
        clear hlt hl hi hll
        go_wp2_with fail
        go_ret
        exact HV.out
  have HL := Go.Lib.hid (show ownB op bs = bs from if_pos h4)
  rw [HL.out]
  rcases h4 with rfl | rfl | rfl
  all_goals
    go_enter Tryd.func64, Tryd.ntmps64
    go_wp2_with ((with_reducible refine gate_builtin (b := .append) (xs := #[.tmp 25, .tmp 29]) rfl ?_); at_builtin; refine print_append_row_of (w0 := w) (Value.int .i64) (0 : Int) w.heap.size rfl (.tmp 25) (.tmp 29) 25 3 (.int .i64 0) 8 rfl Tryd.underlying25 info3 rfl (by decide) (fun _ => rfl) (.slice none 0 0) [] bs A2 bs.length c2 rfl rfl ?q1 ?q2 ?q3 ?q4 ?q5 ?_; (case q1 => exact HB0.out.own); (case q2 => exact G2.out); (case q3 => exact HB0.out.b); (case q4 => exact HB0.out.b.size); (case q5 => simp; omega); intro v1 w9 ho9 hb9 hg9 hat9; obtain ⟨A9, c9, rfl⟩ := own_slice ho9; have HBO := Go.Lib.hid (Bo.mk hb9 ho9); clear t0 t1 t2 t3 t4; obtain ⟨t0, t1, t2, t3, t4⟩ := (HB.out.below hb9).cells; clear ho9 hb9 hg9 hat9)
    go_loopg [3, 36] al.length (fun g_ v3 v36 w' => ∃ (i : Nat) (l : List Int) (A : Option Addr) (c : Nat), Hid (i + g_ = al.length) ∧ v3 = .slice A l.length c ∧ v36 = .int .i64 i ∧ Hid (l = bs ++ (al.take i).flatMap S86.f1) ∧ Hid (l.length ≤ 16 + i * 16) ∧ Hid (Bo w (.slice A l.length c) l w'))
    case atStart => exact ⟨0, bs, A9, c9, Go.Lib.hid (by omega), (by first | rfl | simp), rfl, Go.Lib.hid (by simp), Go.Lib.hid (by omega), HBO⟩
    case round =>
      clear HBO t0 t1 t2 t3 t4
      obtain ⟨i, l, A, c, hi, rfl, rfl, hl, hll, hbo⟩ := hrel
      obtain ⟨wo, hwo⟩ : ∃ wo : World, wo = wr := ⟨_, rfl⟩
      subst hwo
      by_cases hlt : i < al.length
      · have hlt' : (i : Int) < (al.length : Int) := by omega
        have hi0 : (0 : Int) ≤ (i : Int) := by omega
        have HI := Go.Lib.hid hlt
        obtain ⟨ad, A1, c1, e_, p0, p1, q1, q2⟩ := at_T86 G4.out (i : Int) hi0 hlt'
        cases e_
        rw [rdA_nat al i hlt] at p0 p1 q1 q2
        rw [Int.toNat_natCast] at p0 p1
        replace p0 := pw_cell_below hbo.out.b p0
        replace p1 := pw_cell_below hbo.out.b p1
        have HSN := Go.Lib.hid (flatA_snoc al i hlt)
        have HAL := Go.Lib.hid (HX.out.ab _ (List.getElem_mem hlt))
        generalize al[i]'hlt = a at p0 p1 q1 q2 HSN HAL
        have HBX := Go.Lib.hid (hbo.out.lift (below_alloc (Below.refl _ _) (.cells #[.int .i64 a.f0, .slice A1 a.f1.length c1] 86)))
        obtain ⟨y0, y1⟩ := (Bxa.made wo a A1 c1).cells
        have HQ2 := Go.Lib.hid (Kd.reads_of_C (d := (0 : Int)) (Kd.C_below q2 HBX.out.b))
        have ha9' : (a.f1.length : Int) ≤ 16 := by have := HAL.out; omega
        clear hlt q1 q2 hbo
        go_wp2_with ((with_reducible refine gate_builtin (b := .append) (xs := #[.tmp 40, .tmp 42]) rfl ?_); at_builtin; refine print_append_row_of (w0 := w) (Value.int .i64) (0 : Int) w.heap.size rfl (.tmp 40) (.tmp 42) 25 3 (.int .i64 0) 8 rfl Tryd.underlying25 info3 rfl (by decide) (fun _ => rfl) (.slice A l.length c) l a.f1 A1 a.f1.length c1 rfl rfl ?q1 ?q2 ?q3 ?q4 ?q5 ?_; (case q1 => exact HBX.out.own); (case q2 => exact HQ2.out); (case q3 => exact HBX.out.b); (case q4 => exact HBX.out.b.size); (case q5 => have q1_ := hll.out; have q2_ := HAL.out; have q3_ := HI.out; omega); intro v1 w9 ho9 hb9 hg9 hat9; obtain ⟨A9, c9, rfl⟩ := own_slice ho9; have HB9 := Go.Lib.hid (Bo.mk hb9 ho9); clear ho9 hb9 hg9 hat9)
        go_roundg (gk - 1)
        case measure => have := hi.out; have := HI.out; omega
        case rel => exact ⟨i + 1, l ++ a.f1, A9, c9, Go.Lib.hid (by have := hi.out; have := HI.out; omega), by first | rfl | simp, by go_num, Go.Lib.hid (by rw [HSN.out, ← List.append_assoc, ← hl.out]), Go.Lib.hid (by rw [List.length_append]; have := hll.out; have := HAL.out; omega), HB9⟩
      · have hd : decide ((i : Int) < (al.length : Int)) = false := decide_eq_false (by omega)
        have hd2 : decide (i < al.length) = false := decide_eq_false hlt
        have HE := hl.out
        rw [List.take_of_length_le (by omega)] at HE
        have HV := Go.Lib.hid (hbo.out.row.of HE)
        clear HE
        clear hlt hl hi hll
        go_wp2_with fail
        go_ret
        exact HV.out
end Go.Proofs.YtjhinklijopobaaDoor.Co
