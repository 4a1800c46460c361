import Derived.Test.YtjhinklijopobaaDoorEc
import Derived.BigQuiet
namespace Go.Proofs.YtjhinklijopobaaDoor.Co
open Go.RowKit Go.Proofs.YtjhinklijopobaaDoor.PCoreChecks Go.Proofs.YtjhinklijopobaaDoorW.PrintWords Go.Proofs.YtjhinklijopobaaDoorW.PrintLast Go.Proofs.YtjhinklijopobaaDoorW.PrintMore
set_option linter.unusedVariables false
set_option linter.unusedSimpArgs false

/-! ### FlatChecks -/
def Sx (w : World) (fs : List S91) (mn : Int) (A0 : Option Addr) (c0 : Nat) (W : World) : Prop := W.cell? ⟨w.heap.size, 0, none⟩ = some (.slice A0 fs.length c0) ∧ W.cell? ⟨w.heap.size, 1, none⟩ = some (.int .i64 mn) ∧ Hid (Zp w fs mn A0 c0 w.heap.size W)
theorem Sx.of {w : World} {fs : List S91} {mn : Int} {A0 : Option Addr} {c0 : Nat} {W : World} (h : Zp w fs mn A0 c0 w.heap.size W) : Sx w fs mn A0 c0 W := ⟨h.cells.1, h.cells.2, Go.Lib.hid h⟩
theorem Sx.drew {w : World} {fs : List S91} {mn : Int} {A0 : Option Addr} {c0 : Nat} {W : World} (h : Sx w fs mn A0 c0 W) : Sx w fs mn A0 c0 W.drew := Sx.of (h.2.2.out.below (below_drew (Below.refl _ _)))
theorem Sx.drewN {w : World} {fs : List S91} {mn : Int} {A0 : Option Addr} {c0 : Nat} {W : World} (h : Sx w fs mn A0 c0 W) (n : Nat) : Sx w fs mn A0 c0 (W.drewN n) := Sx.of (h.2.2.out.below (pw_below_drewN (Below.refl _ _) n))
theorem prog_nil : progE [] 0 = 3 := by unfold progE; exact if_pos rfl
theorem pin_nil (w : World) : Pin w [] 0 none 0 := ⟨fun f hf => absurd hf (by simp), fun f hf => absurd hf (by simp), Nat.le_refl _, Kd.C_nil _ _⟩
theorem chk_nil {w : World} {fs : List S91} {mn : Int} {A0 : Option Addr} {c0 : Nat} (hT : Hid (Tab w)) {W : World} (h : Sx w fs mn A0 c0 W) :
    Calls Tryd.prog 32 #[.agg #[.slice none 0 0, .int .i64 0]] W fun e W' => e = .returned (.int .i64 3) ∧ Sx w fs mn A0 c0 W' :=
  (flatC_calls [] 0 none 0 W (pin_nil W) (hT.out.below h.2.2.out.b)).mono fun e W' hh => ⟨by rw [← prog_nil]; exact hh.1, Sx.of (h.2.2.out.below hh.2)⟩
theorem chk_arm {w : World} {fs : List S91} {mn : Int} {A0 : Option Addr} {c0 : Nat} (hP : Hid (Pin w fs mn A0 c0)) (hT : Hid (Tab w)) {W : World} (h : Sx w fs mn A0 c0 W) :
    Calls Tryd.prog 32 #[.agg #[.slice A0 fs.length c0, .int .i64 mn]] W fun e W' => e = .returned (.int .i64 (progE fs mn)) ∧ Sx w fs mn A0 c0 W' :=
  (flatC_calls fs mn A0 c0 W (hP.out.below h.2.2.out.b) (hT.out.below h.2.2.out.b)).mono fun e W' hh => ⟨hh.1, Sx.of (h.2.2.out.below hh.2)⟩
theorem flt_arm {w : World} {fs : List S91} {mn : Int} {A0 : Option Addr} {c0 : Nat} (hP : Hid (Pin w fs mn A0 c0)) (hT : Hid (Tab w)) {W : World} (h : Sx w fs mn A0 c0 W) :
    Calls Tryd.prog 33 #[.agg #[.slice A0 fs.length c0, .int .i64 mn]] W fun e W' => e = .returned (.int .i64 (progE fs mn)) ∧ Sx w fs mn A0 c0 W' :=
  (flatR_calls fs mn A0 c0 W (hP.out.below h.2.2.out.b) (hT.out.below h.2.2.out.b)).mono fun e W' hh => ⟨hh.1, Sx.of (h.2.2.out.below hh.2)⟩
set_option maxHeartbeats 8000000 in
set_option maxRecDepth 100000 in
theorem law_flatChecks (fs : List S91) (mn : Int) (A0 : Option Addr) (c0 : Nat) (w : World) (hp : Pin w fs mn A0 c0) (hT : Tab w) : Calls Tryd.prog 9 #[.agg #[.slice A0 fs.length c0, .int .i64 mn]] w (LwP w) := by
  have HPI := Go.Lib.hid hp
  have HT := Go.Lib.hid hT
  have HSX := Go.Lib.hid (Sx.of (zp_one w fs mn A0 c0))
  have hq : (progE fs mn == progE fs mn) = true := beq_self_eq_true _
  clear hp hT
  go_enter Tryd.func9, Tryd.ntmps9
  go_upto_region 1 with fail
  refine wp_region_held_drew (S := fun w' => w'.cell? ⟨w.heap.size, 0, none⟩ = some (.slice A0 fs.length c0) ∧ w'.cell? ⟨w.heap.size, 1, none⟩ = some (.int .i64 mn) ∧ Hid (Zp w fs mn A0 c0 w.heap.size w')) (by kernel_rfl) (HSX.out.drew) (fun hHeld => ?_)
  refine wpAnyH_take (i := 0) (oi := { dst := some 3, op := Op.build 51 #[], type := 51, pos := "laws.go:175", after := #[], guard := none }) (v := ?_) rfl (by kernel_rfl) (by kernel_rfl) (by kernel_rfl) (fun _ _ _ h => h) (Or.inl ⟨by first | rfl | kernel_rfl, ?_⟩) (by assumption) ?_
  rotate_left 1
  · intro w9 hSw; (try dsimp only at hSw); go_simp; (try with_reducible rfl)
  (try simp only [Act.put, List.setIfInBounds_toArray, List.set_cons_zero, List.set_cons_succ])
  refine wpAnyH_ready (rs := [1]) (by kernel_rfl) (by simp) ?_
  refine AllReadyH.cons (o := { dst := some 4, op := Op.call { callee := Callee.value (Operand.func 32), args := #[Operand.tmp 3], argTypes := #[51] }, type := 23, pos := "laws.go:175", after := #[{ on := 0, ground := Ground.data }], guard := none }) rfl (fun K hK => ?_) AllReadyH.nil
  go_simp
  (go_at_call 32; refine (chk_nil HT (show Sx w fs mn A0 c0 _ from ‹_ ∧ _ ∧ Hid (Zp w fs mn A0 c0 w.heap.size _)›)).mono ?_; rintro e wn ⟨rfl, hNew⟩)
  refine hK.out _ _ hNew (fun hHeld => ?_)
  clear hK K
  (try simp only [Act.put, List.setIfInBounds_toArray, List.set_cons_zero, List.set_cons_succ])
  refine wpAnyH_take (i := 2) (oi := { dst := some 5, op := Op.binOp BinOp.eql 23 (Operand.tmp 4) (Operand.const (Value.int IntKind.i64 3)) 23, type := 4, pos := "laws.go:175", after := #[{ on := 1, ground := Ground.data }], guard := none }) (v := ?_) rfl (by kernel_rfl) (by kernel_rfl) (by kernel_rfl) (fun _ _ _ h => h) (Or.inl ⟨by first | rfl | kernel_rfl, ?_⟩) (by assumption) ?_
  rotate_left 1
  · intro w9 hSw; (try dsimp only at hSw); go_simp; (try with_reducible rfl)
  (try simp only [Act.put, List.setIfInBounds_toArray, List.set_cons_zero, List.set_cons_succ])
  refine wpAnyH_take (i := 3) (oi := { dst := some 6, op := Op.move (Operand.tmp 5), type := 4, pos := "laws.go:175", after := #[{ on := 2, ground := Ground.data }, { on := 1, ground := Ground.chain }], guard := none }) (v := ?_) rfl (by kernel_rfl) (by kernel_rfl) (by kernel_rfl) (fun _ _ _ h => h) (Or.inl ⟨by first | rfl | kernel_rfl, ?_⟩) (by assumption) ?_
  rotate_left 1
  · intro w9 hSw; (try dsimp only at hSw); go_simp; (try with_reducible rfl)
  (try simp only [Act.put, List.setIfInBounds_toArray, List.set_cons_zero, List.set_cons_succ])
  refine wpAnyH_take (i := 4) (oi := { dst := some 7, op := Op.load 51 (Operand.tmp 1), type := 51, pos := "laws.go:175", after := #[{ on := 3, ground := Ground.guard }], guard := some (3, true) }) (v := ?_) rfl (by kernel_rfl) (by kernel_rfl) (by kernel_rfl) (fun _ _ _ h => h) (Or.inl ⟨by first | rfl | kernel_rfl, ?_⟩) (by assumption) ?_
  rotate_left 1
  · intro w9 hSw; (try dsimp only at hSw); go_simp; (try with_reducible rfl)
  (try simp only [Act.put, List.setIfInBounds_toArray, List.set_cons_zero, List.set_cons_succ])
  refine wpAnyH_take (i := 6) (oi := { dst := some 9, op := Op.load 51 (Operand.tmp 1), type := 51, pos := "laws.go:175", after := #[{ on := 3, ground := Ground.guard }], guard := some (3, true) }) (v := ?_) rfl (by kernel_rfl) (by kernel_rfl) (by kernel_rfl) (fun _ _ _ h => h) (Or.inl ⟨by first | rfl | kernel_rfl, ?_⟩) (by assumption) ?_
  rotate_left 1
  · intro w9 hSw; (try dsimp only at hSw); go_simp; (try with_reducible rfl)
  (try simp only [Act.put, List.setIfInBounds_toArray, List.set_cons_zero, List.set_cons_succ])
  refine wpAnyH_ready (rs := [5]) (by kernel_rfl) (by simp) ?_
  refine AllReadyH.cons (o := { dst := some 8, op := Op.call { callee := Callee.value (Operand.func 32), args := #[Operand.tmp 7], argTypes := #[51] }, type := 23, pos := "laws.go:175", after := #[{ on := 4, ground := Ground.data }, { on := 3, ground := Ground.chain }, { on := 3, ground := Ground.guard }], guard := some (3, true) }) rfl (fun K hK => ?_) AllReadyH.nil
  go_simp
  (go_at_call 32; refine (chk_arm HPI HT (show Sx w fs mn A0 c0 _ from ‹_ ∧ _ ∧ Hid (Zp w fs mn A0 c0 w.heap.size _)›)).mono ?_; rintro e wn ⟨rfl, hNew⟩)
  refine hK.out _ _ hNew (fun hHeld => ?_)
  clear hK K
  (try simp only [Act.put, List.setIfInBounds_toArray, List.set_cons_zero, List.set_cons_succ])
  refine wpAnyH_ready (rs := [7]) (by kernel_rfl) (by simp) ?_
  refine AllReadyH.cons (o := { dst := some 10, op := Op.call { callee := Callee.value (Operand.func 33), args := #[Operand.tmp 9], argTypes := #[51] }, type := 23, pos := "laws.go:175", after := #[{ on := 6, ground := Ground.data }, { on := 5, ground := Ground.chain }, { on := 3, ground := Ground.guard }], guard := some (3, true) }) rfl (fun K hK => ?_) AllReadyH.nil
  go_simp
  (go_at_call 33; refine (flt_arm HPI HT (show Sx w fs mn A0 c0 _ from ‹_ ∧ _ ∧ Hid (Zp w fs mn A0 c0 w.heap.size _)›)).mono ?_; rintro e wn ⟨rfl, hNew⟩)
  refine hK.out _ _ hNew (fun hHeld => ?_)
  clear hK K
  (try simp only [Act.put, List.setIfInBounds_toArray, List.set_cons_zero, List.set_cons_succ])
  refine wpAnyH_take (i := 8) (oi := { dst := some 11, op := Op.binOp BinOp.eql 23 (Operand.tmp 8) (Operand.tmp 10) 23, type := 4, pos := "laws.go:175", after := #[{ on := 5, ground := Ground.data }, { on := 7, ground := Ground.data }, { on := 3, ground := Ground.guard }], guard := some (3, true) }) (v := ?_) rfl (by kernel_rfl) (by kernel_rfl) (by kernel_rfl) (fun _ _ _ h => h) (Or.inl ⟨by first | rfl | kernel_rfl, ?_⟩) (by assumption) ?_
  rotate_left 1
  · intro w9 hSw; (try dsimp only at hSw); go_simp; (try with_reducible rfl)
  (try simp only [Act.put, List.setIfInBounds_toArray, List.set_cons_zero, List.set_cons_succ])
  refine wpAnyH_take (i := 9) (oi := { dst := some 12, op := Op.pick (Operand.tmp 6) (Operand.tmp 11) (Operand.const (Value.bool false)), type := 4, pos := "laws.go:175", after := #[{ on := 3, ground := Ground.data }, { on := 8, ground := Ground.data }], guard := none }) (v := ?_) rfl (by kernel_rfl) (by kernel_rfl) (by kernel_rfl) (fun _ _ _ h => h) (Or.inl ⟨by first | rfl | kernel_rfl, ?_⟩) (by assumption) ?_
  rotate_left 1
  · intro w9 hSw; (try dsimp only at hSw); go_simp; (try with_reducible rfl)
  (try simp only [Act.put, List.setIfInBounds_toArray, List.set_cons_zero, List.set_cons_succ])
  refine wpAnyH_take (i := 10) (oi := { dst := some 2, op := Op.assign (Operand.tmp 12), type := 4, pos := "laws.go:175", after := #[{ on := 9, ground := Ground.data }, { on := 7, ground := Ground.chain }, { on := 0, ground := Ground.phase }, { on := 1, ground := Ground.phase }, { on := 2, ground := Ground.phase }, { on := 3, ground := Ground.phase }, { on := 4, ground := Ground.phase }, { on := 5, ground := Ground.phase }, { on := 6, ground := Ground.phase }, { on := 7, ground := Ground.phase }, { on := 8, ground := Ground.phase }, { on := 9, ground := Ground.phase }], guard := none }) (v := ?_) rfl (by kernel_rfl) (by kernel_rfl) (by kernel_rfl) (fun _ _ _ h => h) (Or.inl ⟨by first | rfl | kernel_rfl, ?_⟩) (by assumption) ?_
  rotate_left 1
  · intro w9 hSw; (try dsimp only at hSw); go_simp; (try with_reducible rfl)
  (try simp only [Act.put, List.setIfInBounds_toArray, List.set_cons_zero, List.set_cons_succ])
  refine wpAnyH_done (by kernel_rfl) ?_ _
  have HV := Go.Lib.hid (show Below w.heap.size w _ from hNew.2.2.out.b)
  go_wp2_with fail
  go_ret
  exact ⟨by simp [hq], HV.out⟩
end Go.Proofs.YtjhinklijopobaaDoor.Co
