import Derived.Test.YtjhinklijopobaaDoorJd
namespace Go.Proofs.YtjhinklijopobaaDoor.Co
open Go.RowKit Go.Proofs.YtjhinklijopobaaDoor.PCoreChecks Go.Proofs.YtjhinklijopobaaDoorW.PrintWords Go.Proofs.YtjhinklijopobaaDoorW.PrintLast Go.Proofs.YtjhinklijopobaaDoorW.PrintMore
set_option linter.unusedVariables false
set_option linter.unusedSimpArgs false

/-! ### The document's SameInts and SameList, at equal lists -/
def YesP (w : World) (e : Ending) (w' : World) : Prop := e = .returned (.bool true) ∧ Below w.heap.size w w'
set_option maxHeartbeats 4000000 in
set_option maxRecDepth 100000 in
theorem sameI_calls (l : List Int) (A B : Option Addr) (c d : Nat) (w : World) (hA : Kd.C (Kd.int .i64) w A l.length l) (hB : Kd.C (Kd.int .i64) w B l.length l) (hl9 : l.length ≤ 17592186044416) :
    Calls Tryd.prog 56 #[.slice A l.length c, .slice B l.length d] w (YesP w) := by
  have HA := Go.Lib.hid hA
  have HB := Go.Lib.hid hB
  have hl : (l.length : Int) ≤ 17592186044416 := by omega
  have hq : ((l.length : Int) != (l.length : Int)) = false := by simp
  clear hA hB hl9
  go_enter Tryd.func56, Tryd.ntmps56
  go_wp2_with fail
  go_loopg [13] l.length (fun g_ v13 w' => ∃ j : Nat, Hid (j + g_ = l.length) ∧ v13 = .int .i64 j ∧ Hid (Below w.heap.size w w'))
  case atStart => exact ⟨0, Go.Lib.hid (by omega), rfl, Go.Lib.hid (Below.refl _ _)⟩
  case round =>
    obtain ⟨j, hj, rfl, hb⟩ := hrel
    obtain ⟨wi, hwi⟩ : ∃ wi : World, wi = wr := ⟨_, rfl⟩
    subst hwi
    by_cases hlt : j < l.length
    · have hltj : (j : Int) < (l.length : Int) := by omega
      have hj0 : (0 : Int) ≤ (j : Int) := by omega
      have HJ := Go.Lib.hid hlt
      obtain ⟨ad1, e_, p0⟩ := Kd.at_int (Kd.C_below HA.out hb.out) (j : Int) hj0 hltj
      cases e_
      obtain ⟨ad2, e_, q0⟩ := Kd.at_int (Kd.C_below HB.out hb.out) (j : Int) hj0 hltj
      cases e_
      rw [Int.toNat_natCast] at p0 q0
      generalize rd l (j : Int) = y at p0 q0
      have hyy : (y != y) = false := by simp
      clear hlt
      go_wp2_with fail
      go_quiet (fail)
      go_wp2_with fail
      go_roundg (gk - 1)
      case measure => have := hj.out; have := HJ.out; omega
      case rel => exact ⟨j + 1, Go.Lib.hid (by have := hj.out; have := HJ.out; omega), by go_num, Go.Lib.hid (below_dn hb.out _)⟩
    · have hd : decide ((j : Int) < (l.length : Int)) = false := decide_eq_false (by omega)
      have hd2 : decide (j < l.length) = false := decide_eq_false hlt
      have HV := Go.Lib.hid (show YesP w (.returned (.bool true)) wi from ⟨rfl, hb.out⟩)
      clear hlt hj
      go_wp2_with fail
      go_ret
      exact HV.out
def Two (ad bd : Addr) (j : Nat) (x : S28) (A2 A3 A4 B2 B3 B4 : Option Addr) (c2 c3 c4 d2 d3 d4 : Nat) (w w' : World) : Prop :=
  w'.cell? (ad.add (j * 5)) = some (.int .i64 x.f0) ∧ w'.cell? ⟨(ad.add (j * 5)).block, (ad.add (j * 5)).off + 1, none⟩ = some (.int .i64 x.f1) ∧ w'.cell? ⟨(ad.add (j * 5)).block, (ad.add (j * 5)).off + 2, none⟩ = some (.slice A2 x.f2.length c2) ∧ w'.cell? ⟨(ad.add (j * 5)).block, (ad.add (j * 5)).off + 3, none⟩ = some (.slice A3 x.f3.length c3) ∧ w'.cell? ⟨(ad.add (j * 5)).block, (ad.add (j * 5)).off + 4, none⟩ = some (.slice A4 x.f4.length c4) ∧ w'.cell? (bd.add (j * 5)) = some (.int .i64 x.f0) ∧ w'.cell? ⟨(bd.add (j * 5)).block, (bd.add (j * 5)).off + 1, none⟩ = some (.int .i64 x.f1) ∧ w'.cell? ⟨(bd.add (j * 5)).block, (bd.add (j * 5)).off + 2, none⟩ = some (.slice B2 x.f2.length d2) ∧ w'.cell? ⟨(bd.add (j * 5)).block, (bd.add (j * 5)).off + 3, none⟩ = some (.slice B3 x.f3.length d3) ∧ w'.cell? ⟨(bd.add (j * 5)).block, (bd.add (j * 5)).off + 4, none⟩ = some (.slice B4 x.f4.length d4) ∧ Hid (Below w.heap.size w w')
theorem Two.below {w2 : World} {ad bd : Addr} {j : Nat} {x : S28} {A2 A3 A4 B2 B3 B4 : Option Addr} {c2 c3 c4 d2 d3 d4 : Nat} {w w' : World} (h : Two ad bd j x A2 A3 A4 B2 B3 B4 c2 c3 c4 d2 d3 d4 w w') (hb : Below w'.heap.size w' w2) : Two ad bd j x A2 A3 A4 B2 B3 B4 c2 c3 c4 d2 d3 d4 w w2 := by
  obtain ⟨h0, h1, h2, h3, h4, h5, h6, h7, h8, h9, h10⟩ := h
  exact ⟨pw_cell_below hb h0, pw_cell_below hb h1, pw_cell_below hb h2, pw_cell_below hb h3, pw_cell_below hb h4, pw_cell_below hb h5, pw_cell_below hb h6, pw_cell_below hb h7, pw_cell_below hb h8, pw_cell_below hb h9, Go.Lib.hid (below_step h10.out hb)⟩
theorem two_arm {l : List Int} {A B : Option Addr} {c d : Nat} {ad bd : Addr} {j : Nat} {x : S28} {A2 A3 A4 B2 B3 B4 : Option Addr} {c2 c3 c4 d2 d3 d4 : Nat} {w w' : World} (hA : Hid (Kd.C (Kd.int .i64) w A l.length l)) (hB : Hid (Kd.C (Kd.int .i64) w B l.length l)) (hl : l.length ≤ 17592186044416) (h : Two ad bd j x A2 A3 A4 B2 B3 B4 c2 c3 c4 d2 d3 d4 w w') :
    Calls Tryd.prog 56 #[.slice A l.length c, .slice B l.length d] w' fun e wn => e = .returned (.bool true) ∧ Two ad bd j x A2 A3 A4 B2 B3 B4 c2 c3 c4 d2 d3 d4 w wn :=
  (sameI_calls l A B c d w' (Kd.C_below hA.out h.2.2.2.2.2.2.2.2.2.2.out) (Kd.C_below hB.out h.2.2.2.2.2.2.2.2.2.2.out) hl).mono fun e wn h2 => ⟨h2.1, h.below h2.2⟩
def TwoA (ad bd ae be : Addr) (j k n4 : Nat) (a : S86) (A1 A4 B1 B4 : Option Addr) (c1 c4 d1 d4 : Nat) (w w' : World) : Prop :=
  w'.cell? ⟨(ad.add (j * 5)).block, (ad.add (j * 5)).off + 4, none⟩ = some (.slice A4 n4 c4) ∧ w'.cell? ⟨(bd.add (j * 5)).block, (bd.add (j * 5)).off + 4, none⟩ = some (.slice B4 n4 d4) ∧ w'.cell? (ae.add (k * 2)) = some (.int .i64 a.f0) ∧ w'.cell? ⟨(ae.add (k * 2)).block, (ae.add (k * 2)).off + 1, none⟩ = some (.slice A1 a.f1.length c1) ∧ w'.cell? (be.add (k * 2)) = some (.int .i64 a.f0) ∧ w'.cell? ⟨(be.add (k * 2)).block, (be.add (k * 2)).off + 1, none⟩ = some (.slice B1 a.f1.length d1) ∧ Hid (Below w.heap.size w w')
theorem TwoA.below {w2 : World} {ad bd ae be : Addr} {j k n4 : Nat} {a : S86} {A1 A4 B1 B4 : Option Addr} {c1 c4 d1 d4 : Nat} {w w' : World} (h : TwoA ad bd ae be j k n4 a A1 A4 B1 B4 c1 c4 d1 d4 w w') (hb : Below w'.heap.size w' w2) : TwoA ad bd ae be j k n4 a A1 A4 B1 B4 c1 c4 d1 d4 w w2 := by
  obtain ⟨h0, h1, h2, h3, h4, h5, h6⟩ := h
  exact ⟨pw_cell_below hb h0, pw_cell_below hb h1, pw_cell_below hb h2, pw_cell_below hb h3, pw_cell_below hb h4, pw_cell_below hb h5, Go.Lib.hid (below_step h6.out hb)⟩
theorem two_armA {l : List Int} {A B : Option Addr} {c d : Nat} {ad bd ae be : Addr} {j k n4 : Nat} {a : S86} {A1 A4 B1 B4 : Option Addr} {c1 c4 d1 d4 : Nat} {w w' : World} (hA : Hid (Kd.C (Kd.int .i64) w A l.length l)) (hB : Hid (Kd.C (Kd.int .i64) w B l.length l)) (hl : l.length ≤ 17592186044416) (h : TwoA ad bd ae be j k n4 a A1 A4 B1 B4 c1 c4 d1 d4 w w') :
    Calls Tryd.prog 56 #[.slice A l.length c, .slice B l.length d] w' fun e wn => e = .returned (.bool true) ∧ TwoA ad bd ae be j k n4 a A1 A4 B1 B4 c1 c4 d1 d4 w wn :=
  (sameI_calls l A B c d w' (Kd.C_below hA.out h.2.2.2.2.2.2.out) (Kd.C_below hB.out h.2.2.2.2.2.2.out) hl).mono fun e wn h2 => ⟨h2.1, h.below h2.2⟩
set_option maxHeartbeats 8000000 in
set_option maxRecDepth 100000 in
theorem sameL_calls (L : List S28) (hs : ∀ x ∈ L, Small x) (A B : Option Addr) (c d : Nat) (w : World) (hA : Kd.C k28 w A L.length L) (hB : Kd.C k28 w B L.length L) (hl9 : L.length ≤ 17592186044416) :
    Calls Tryd.prog 26 #[.slice A L.length c, .slice B L.length d] w (YesP w) := by
  have HA := Go.Lib.hid hA
  have HB := Go.Lib.hid hB
  have HS := Go.Lib.hid hs
  have hl : (L.length : Int) ≤ 17592186044416 := by omega
  have hq : ((L.length : Int) != (L.length : Int)) = false := by simp
  clear hA hB hl9 hs
  go_enter Tryd.func26, Tryd.ntmps26
  go_wp2_with fail
  go_loopg [14] L.length (fun g_ v14 w' => ∃ j : Nat, Hid (j + g_ = L.length) ∧ v14 = .int .i64 j ∧ Hid (Below w.heap.size w w'))
  case atStart => exact ⟨0, Go.Lib.hid (by omega), rfl, Go.Lib.hid (Below.refl _ _)⟩
  case round =>
    obtain ⟨j, hj, rfl, hb⟩ := hrel
    obtain ⟨wo, hwo⟩ : ∃ wo : World, wo = wr := ⟨_, rfl⟩
    subst hwo
    obtain ⟨ga, hga⟩ : ∃ ga : Nat, ga = gk := ⟨_, rfl⟩
    subst hga
    by_cases hlt : j < L.length
    · have hltj : (j : Int) < (L.length : Int) := by omega
      have hj0 : (0 : Int) ≤ (j : Int) := by omega
      have HJ := Go.Lib.hid hlt
      obtain ⟨ad, A2, c2, A3, c3, A4, c4, e_, p0, p1, p2, p3, p4, l2, g2, l3, g3, l4, g4⟩ := at_T28 HA.out (j : Int) hj0 hltj
      cases e_
      obtain ⟨bd, B2, d2, B3, d3, B4, d4, e_, q0, q1, q2, q3, q4, m2, h2, m3, h3, m4, h4⟩ := at_T28 HB.out (j : Int) hj0 hltj
      cases e_
      have hsm := HS.out _ (List.getElem_mem hlt)
      rw [← rdT_nat L j hlt] at hsm
      rw [Int.toNat_natCast] at p0 p1 p2 p3 p4 q0 q1 q2 q3 q4
      generalize rd_T28 L (j : Int) = x at p0 p1 p2 p3 p4 l2 g2 l3 g3 l4 g4 q0 q1 q2 q3 q4 m2 h2 m3 h3 m4 h4 hsm
      have HSM := Go.Lib.hid hsm
      have hx0 : (x.f0 != x.f0) = false := by simp
      have hx1 : (x.f1 != x.f1) = false := by simp
      have hx4 : ((x.f4.length : Int) != (x.f4.length : Int)) = false := by simp
      have ha9 : (x.f4.length : Int) ≤ 17592186044416 := by have := hsm.a; omega
      have HP := Go.Lib.hid (fun W (hW : Below w.heap.size w W) => (⟨pw_cell_below hW p0, pw_cell_below hW p1, pw_cell_below hW p2, pw_cell_below hW p3, pw_cell_below hW p4⟩ : _ ∧ _ ∧ _ ∧ _ ∧ _))
      have HQ := Go.Lib.hid (fun W (hW : Below w.heap.size w W) => (⟨pw_cell_below hW q0, pw_cell_below hW q1, pw_cell_below hW q2, pw_cell_below hW q3, pw_cell_below hW q4⟩ : _ ∧ _ ∧ _ ∧ _ ∧ _))
      have HG2 := Go.Lib.hid g2
      have HG3 := Go.Lib.hid g3
      have HG4 := Go.Lib.hid g4
      have HH2 := Go.Lib.hid h2
      have HH3 := Go.Lib.hid h3
      have HH4 := Go.Lib.hid h4
      clear hlt p0 p1 p2 p3 p4 q0 q1 q2 q3 q4 l2 g2 l3 g3 l4 g4 m2 h2 m3 h3 m4 h4 hsm
      obtain ⟨p0, p1, p2, p3, p4⟩ := HP.out wo hb.out
      obtain ⟨q0, q1, q2, q3, q4⟩ := HQ.out wo hb.out
      have HTW := Go.Lib.hid (show Two ad bd j x A2 A3 A4 B2 B3 B4 c2 c3 c4 d2 d3 d4 w wo from ⟨p0, p1, p2, p3, p4, q0, q1, q2, q3, q4, hb⟩)
      have hl2 := HSM.out.b
      have hl3 := HSM.out.k
      clear p0 p1 p2 p3 p4 q0 q1 q2 q3 q4
      go_wp2_with fail
      simp only [List.append]
      refine wp_region_held_drew (S := fun w' => w'.cell? (ad.add (j * 5)) = some (.int .i64 x.f0) ∧ w'.cell? ⟨(ad.add (j * 5)).block, (ad.add (j * 5)).off + 1, none⟩ = some (.int .i64 x.f1) ∧ w'.cell? ⟨(ad.add (j * 5)).block, (ad.add (j * 5)).off + 2, none⟩ = some (.slice A2 x.f2.length c2) ∧ w'.cell? ⟨(ad.add (j * 5)).block, (ad.add (j * 5)).off + 3, none⟩ = some (.slice A3 x.f3.length c3) ∧ w'.cell? ⟨(ad.add (j * 5)).block, (ad.add (j * 5)).off + 4, none⟩ = some (.slice A4 x.f4.length c4) ∧ w'.cell? (bd.add (j * 5)) = some (.int .i64 x.f0) ∧ w'.cell? ⟨(bd.add (j * 5)).block, (bd.add (j * 5)).off + 1, none⟩ = some (.int .i64 x.f1) ∧ w'.cell? ⟨(bd.add (j * 5)).block, (bd.add (j * 5)).off + 2, none⟩ = some (.slice B2 x.f2.length d2) ∧ w'.cell? ⟨(bd.add (j * 5)).block, (bd.add (j * 5)).off + 3, none⟩ = some (.slice B3 x.f3.length d3) ∧ w'.cell? ⟨(bd.add (j * 5)).block, (bd.add (j * 5)).off + 4, none⟩ = some (.slice B4 x.f4.length d4) ∧ Hid (Below w.heap.size w w')) (by kernel_rfl) (HTW.out.below (below_drew (Below.refl _ _))) (fun hHeld => ?_)
      refine wpAnyH_take (i := 0) (oi := { dst := some 17, op := Op.move (Operand.tmp 0), type := 22, pos := "core.go:392", after := #[], guard := none }) (v := ?_) rfl (by kernel_rfl) (by kernel_rfl) (by kernel_rfl) (fun _ _ _ h => h) (Or.inl ⟨by first | rfl | kernel_rfl, ?_⟩) (by assumption) ?_
      rotate_left 1
      · intro w9 hSw; (try dsimp only at hSw); go_simp; (try with_reducible rfl)
      (try simp only [Act.put, List.setIfInBounds_toArray, List.set_cons_zero, List.set_cons_succ])
      refine wpAnyH_take (i := 1) (oi := { dst := some 18, op := Op.move (Operand.tmp 5), type := 3, pos := "core.go:392", after := #[], guard := none }) (v := ?_) rfl (by kernel_rfl) (by kernel_rfl) (by kernel_rfl) (fun _ _ _ h => h) (Or.inl ⟨by first | rfl | kernel_rfl, ?_⟩) (by assumption) ?_
      rotate_left 1
      · intro w9 hSw; (try dsimp only at hSw); go_simp; (try with_reducible rfl)
      (try simp only [Act.put, List.setIfInBounds_toArray, List.set_cons_zero, List.set_cons_succ])
      refine wpAnyH_take (i := 2) (oi := { dst := some 19, op := Op.indexAddr 22 (Operand.tmp 17) (Operand.tmp 18), type := 0, pos := "core.go:392", after := #[{ on := 0, ground := Ground.data }, { on := 1, ground := Ground.data }], guard := none }) (v := ?_) rfl (by kernel_rfl) (by kernel_rfl) (by kernel_rfl) (fun _ _ _ h => h) (Or.inl ⟨by first | rfl | kernel_rfl, ?_⟩) (by assumption) ?_
      rotate_left 1
      · intro w9 hSw; (try dsimp only at hSw); go_simp; (try with_reducible rfl)
      (try simp only [Act.put, List.setIfInBounds_toArray, List.set_cons_zero, List.set_cons_succ])
      refine wpAnyH_take (i := 3) (oi := { dst := some 20, op := Op.fieldAddr 28 (Operand.tmp 19) 0, type := 0, pos := "core.go:392", after := #[{ on := 2, ground := Ground.data }], guard := none }) (v := ?_) rfl (by kernel_rfl) (by kernel_rfl) (by kernel_rfl) (fun _ _ _ h => h) (Or.inl ⟨by first | rfl | kernel_rfl, ?_⟩) (by assumption) ?_
      rotate_left 1
      · intro w9 hSw; (try dsimp only at hSw); go_simp; (try with_reducible rfl)
      (try simp only [Act.put, List.setIfInBounds_toArray, List.set_cons_zero, List.set_cons_succ])
      refine wpAnyH_take (i := 4) (oi := { dst := some 21, op := Op.load 3 (Operand.tmp 20), type := 3, pos := "core.go:392", after := #[{ on := 3, ground := Ground.data }], guard := none }) (v := ?_) rfl (by kernel_rfl) (by kernel_rfl) (by kernel_rfl) (fun _ _ _ h => h) (Or.inl ⟨by first | rfl | kernel_rfl, ?_⟩) (by assumption) ?_
      rotate_left 1
      · intro w9 hSw; (try dsimp only at hSw); go_simp; (try with_reducible rfl)
      (try simp only [Act.put, List.setIfInBounds_toArray, List.set_cons_zero, List.set_cons_succ])
      refine wpAnyH_take (i := 5) (oi := { dst := some 22, op := Op.move (Operand.tmp 1), type := 22, pos := "core.go:392", after := #[], guard := none }) (v := ?_) rfl (by kernel_rfl) (by kernel_rfl) (by kernel_rfl) (fun _ _ _ h => h) (Or.inl ⟨by first | rfl | kernel_rfl, ?_⟩) (by assumption) ?_
      rotate_left 1
      · intro w9 hSw; (try dsimp only at hSw); go_simp; (try with_reducible rfl)
      (try simp only [Act.put, List.setIfInBounds_toArray, List.set_cons_zero, List.set_cons_succ])
      refine wpAnyH_take (i := 6) (oi := { dst := some 23, op := Op.move (Operand.tmp 5), type := 3, pos := "core.go:392", after := #[], guard := none }) (v := ?_) rfl (by kernel_rfl) (by kernel_rfl) (by kernel_rfl) (fun _ _ _ h => h) (Or.inl ⟨by first | rfl | kernel_rfl, ?_⟩) (by assumption) ?_
      rotate_left 1
      · intro w9 hSw; (try dsimp only at hSw); go_simp; (try with_reducible rfl)
      (try simp only [Act.put, List.setIfInBounds_toArray, List.set_cons_zero, List.set_cons_succ])
      refine wpAnyH_take (i := 7) (oi := { dst := some 24, op := Op.indexAddr 22 (Operand.tmp 22) (Operand.tmp 23), type := 0, pos := "core.go:392", after := #[{ on := 5, ground := Ground.data }, { on := 6, ground := Ground.data }], guard := none }) (v := ?_) rfl (by kernel_rfl) (by kernel_rfl) (by kernel_rfl) (fun _ _ _ h => h) (Or.inl ⟨by first | rfl | kernel_rfl, ?_⟩) (by assumption) ?_
      rotate_left 1
      · intro w9 hSw; (try dsimp only at hSw); go_simp; (try with_reducible rfl)
      (try simp only [Act.put, List.setIfInBounds_toArray, List.set_cons_zero, List.set_cons_succ])
      refine wpAnyH_take (i := 8) (oi := { dst := some 25, op := Op.fieldAddr 28 (Operand.tmp 24) 0, type := 0, pos := "core.go:392", after := #[{ on := 7, ground := Ground.data }], guard := none }) (v := ?_) rfl (by kernel_rfl) (by kernel_rfl) (by kernel_rfl) (fun _ _ _ h => h) (Or.inl ⟨by first | rfl | kernel_rfl, ?_⟩) (by assumption) ?_
      rotate_left 1
      · intro w9 hSw; (try dsimp only at hSw); go_simp; (try with_reducible rfl)
      (try simp only [Act.put, List.setIfInBounds_toArray, List.set_cons_zero, List.set_cons_succ])
      refine wpAnyH_take (i := 9) (oi := { dst := some 26, op := Op.load 3 (Operand.tmp 25), type := 3, pos := "core.go:392", after := #[{ on := 8, ground := Ground.data }], guard := none }) (v := ?_) rfl (by kernel_rfl) (by kernel_rfl) (by kernel_rfl) (fun _ _ _ h => h) (Or.inl ⟨by first | rfl | kernel_rfl, ?_⟩) (by assumption) ?_
      rotate_left 1
      · intro w9 hSw; (try dsimp only at hSw); go_simp; (try with_reducible rfl)
      (try simp only [Act.put, List.setIfInBounds_toArray, List.set_cons_zero, List.set_cons_succ])
      refine wpAnyH_take (i := 10) (oi := { dst := some 27, op := Op.binOp BinOp.neq 3 (Operand.tmp 21) (Operand.tmp 26) 3, type := 4, pos := "core.go:392", after := #[{ on := 4, ground := Ground.data }, { on := 9, ground := Ground.data }], guard := none }) (v := ?_) rfl (by kernel_rfl) (by kernel_rfl) (by kernel_rfl) (fun _ _ _ h => h) (Or.inl ⟨by first | rfl | kernel_rfl, ?_⟩) (by assumption) ?_
      rotate_left 1
      · intro w9 hSw; (try dsimp only at hSw); go_simp; (try with_reducible rfl)
      (try simp only [Act.put, List.setIfInBounds_toArray, List.set_cons_zero, List.set_cons_succ])
      refine wpAnyH_take (i := 11) (oi := { dst := some 28, op := Op.move (Operand.tmp 27), type := 4, pos := "core.go:392", after := #[{ on := 10, ground := Ground.data }], guard := none }) (v := ?_) rfl (by kernel_rfl) (by kernel_rfl) (by kernel_rfl) (fun _ _ _ h => h) (Or.inl ⟨by first | rfl | kernel_rfl, ?_⟩) (by assumption) ?_
      rotate_left 1
      · intro w9 hSw; (try dsimp only at hSw); go_simp; (try with_reducible rfl)
      (try simp only [Act.put, List.setIfInBounds_toArray, List.set_cons_zero, List.set_cons_succ])
      refine wpAnyH_take (i := 12) (oi := { dst := some 29, op := Op.move (Operand.tmp 0), type := 22, pos := "core.go:392", after := #[{ on := 11, ground := Ground.guard }], guard := some (11, false) }) (v := ?_) rfl (by kernel_rfl) (by kernel_rfl) (by kernel_rfl) (fun _ _ _ h => h) (Or.inl ⟨by first | rfl | kernel_rfl, ?_⟩) (by assumption) ?_
      rotate_left 1
      · intro w9 hSw; (try dsimp only at hSw); go_simp; (try with_reducible rfl)
      (try simp only [Act.put, List.setIfInBounds_toArray, List.set_cons_zero, List.set_cons_succ])
      refine wpAnyH_take (i := 13) (oi := { dst := some 30, op := Op.move (Operand.tmp 5), type := 3, pos := "core.go:392", after := #[{ on := 11, ground := Ground.guard }], guard := some (11, false) }) (v := ?_) rfl (by kernel_rfl) (by kernel_rfl) (by kernel_rfl) (fun _ _ _ h => h) (Or.inl ⟨by first | rfl | kernel_rfl, ?_⟩) (by assumption) ?_
      rotate_left 1
      · intro w9 hSw; (try dsimp only at hSw); go_simp; (try with_reducible rfl)
      (try simp only [Act.put, List.setIfInBounds_toArray, List.set_cons_zero, List.set_cons_succ])
      refine wpAnyH_take (i := 14) (oi := { dst := some 31, op := Op.indexAddr 22 (Operand.tmp 29) (Operand.tmp 30), type := 0, pos := "core.go:392", after := #[{ on := 12, ground := Ground.data }, { on := 13, ground := Ground.data }, { on := 11, ground := Ground.guard }], guard := some (11, false) }) (v := ?_) rfl (by kernel_rfl) (by kernel_rfl) (by kernel_rfl) (fun _ _ _ h => h) (Or.inl ⟨by first | rfl | kernel_rfl, ?_⟩) (by assumption) ?_
      rotate_left 1
      · intro w9 hSw; (try dsimp only at hSw); go_simp; (try with_reducible rfl)
      (try simp only [Act.put, List.setIfInBounds_toArray, List.set_cons_zero, List.set_cons_succ])
      refine wpAnyH_take (i := 15) (oi := { dst := some 32, op := Op.fieldAddr 28 (Operand.tmp 31) 1, type := 0, pos := "core.go:392", after := #[{ on := 14, ground := Ground.data }, { on := 11, ground := Ground.guard }], guard := some (11, false) }) (v := ?_) rfl (by kernel_rfl) (by kernel_rfl) (by kernel_rfl) (fun _ _ _ h => h) (Or.inl ⟨by first | rfl | kernel_rfl, ?_⟩) (by assumption) ?_
      rotate_left 1
      · intro w9 hSw; (try dsimp only at hSw); go_simp; (try with_reducible rfl)
      (try simp only [Act.put, List.setIfInBounds_toArray, List.set_cons_zero, List.set_cons_succ])
      refine wpAnyH_take (i := 16) (oi := { dst := some 33, op := Op.load 3 (Operand.tmp 32), type := 3, pos := "core.go:392", after := #[{ on := 15, ground := Ground.data }, { on := 11, ground := Ground.guard }], guard := some (11, false) }) (v := ?_) rfl (by kernel_rfl) (by kernel_rfl) (by kernel_rfl) (fun _ _ _ h => h) (Or.inl ⟨by first | rfl | kernel_rfl, ?_⟩) (by assumption) ?_
      rotate_left 1
      · intro w9 hSw; (try dsimp only at hSw); go_simp; (try with_reducible rfl)
      (try simp only [Act.put, List.setIfInBounds_toArray, List.set_cons_zero, List.set_cons_succ])
      refine wpAnyH_take (i := 17) (oi := { dst := some 34, op := Op.move (Operand.tmp 1), type := 22, pos := "core.go:392", after := #[{ on := 11, ground := Ground.guard }], guard := some (11, false) }) (v := ?_) rfl (by kernel_rfl) (by kernel_rfl) (by kernel_rfl) (fun _ _ _ h => h) (Or.inl ⟨by first | rfl | kernel_rfl, ?_⟩) (by assumption) ?_
      rotate_left 1
      · intro w9 hSw; (try dsimp only at hSw); go_simp; (try with_reducible rfl)
      (try simp only [Act.put, List.setIfInBounds_toArray, List.set_cons_zero, List.set_cons_succ])
      refine wpAnyH_take (i := 18) (oi := { dst := some 35, op := Op.move (Operand.tmp 5), type := 3, pos := "core.go:392", after := #[{ on := 11, ground := Ground.guard }], guard := some (11, false) }) (v := ?_) rfl (by kernel_rfl) (by kernel_rfl) (by kernel_rfl) (fun _ _ _ h => h) (Or.inl ⟨by first | rfl | kernel_rfl, ?_⟩) (by assumption) ?_
      rotate_left 1
      · intro w9 hSw; (try dsimp only at hSw); go_simp; (try with_reducible rfl)
      (try simp only [Act.put, List.setIfInBounds_toArray, List.set_cons_zero, List.set_cons_succ])
      refine wpAnyH_take (i := 19) (oi := { dst := some 36, op := Op.indexAddr 22 (Operand.tmp 34) (Operand.tmp 35), type := 0, pos := "core.go:392", after := #[{ on := 17, ground := Ground.data }, { on := 18, ground := Ground.data }, { on := 11, ground := Ground.guard }], guard := some (11, false) }) (v := ?_) rfl (by kernel_rfl) (by kernel_rfl) (by kernel_rfl) (fun _ _ _ h => h) (Or.inl ⟨by first | rfl | kernel_rfl, ?_⟩) (by assumption) ?_
      rotate_left 1
      · intro w9 hSw; (try dsimp only at hSw); go_simp; (try with_reducible rfl)
      (try simp only [Act.put, List.setIfInBounds_toArray, List.set_cons_zero, List.set_cons_succ])
      refine wpAnyH_take (i := 20) (oi := { dst := some 37, op := Op.fieldAddr 28 (Operand.tmp 36) 1, type := 0, pos := "core.go:392", after := #[{ on := 19, ground := Ground.data }, { on := 11, ground := Ground.guard }], guard := some (11, false) }) (v := ?_) rfl (by kernel_rfl) (by kernel_rfl) (by kernel_rfl) (fun _ _ _ h => h) (Or.inl ⟨by first | rfl | kernel_rfl, ?_⟩) (by assumption) ?_
      rotate_left 1
      · intro w9 hSw; (try dsimp only at hSw); go_simp; (try with_reducible rfl)
      (try simp only [Act.put, List.setIfInBounds_toArray, List.set_cons_zero, List.set_cons_succ])
      refine wpAnyH_take (i := 21) (oi := { dst := some 38, op := Op.load 3 (Operand.tmp 37), type := 3, pos := "core.go:392", after := #[{ on := 20, ground := Ground.data }, { on := 11, ground := Ground.guard }], guard := some (11, false) }) (v := ?_) rfl (by kernel_rfl) (by kernel_rfl) (by kernel_rfl) (fun _ _ _ h => h) (Or.inl ⟨by first | rfl | kernel_rfl, ?_⟩) (by assumption) ?_
      rotate_left 1
      · intro w9 hSw; (try dsimp only at hSw); go_simp; (try with_reducible rfl)
      (try simp only [Act.put, List.setIfInBounds_toArray, List.set_cons_zero, List.set_cons_succ])
      refine wpAnyH_take (i := 22) (oi := { dst := some 39, op := Op.binOp BinOp.neq 3 (Operand.tmp 33) (Operand.tmp 38) 3, type := 4, pos := "core.go:392", after := #[{ on := 16, ground := Ground.data }, { on := 21, ground := Ground.data }, { on := 11, ground := Ground.guard }], guard := some (11, false) }) (v := ?_) rfl (by kernel_rfl) (by kernel_rfl) (by kernel_rfl) (fun _ _ _ h => h) (Or.inl ⟨by first | rfl | kernel_rfl, ?_⟩) (by assumption) ?_
      rotate_left 1
      · intro w9 hSw; (try dsimp only at hSw); go_simp; (try with_reducible rfl)
      (try simp only [Act.put, List.setIfInBounds_toArray, List.set_cons_zero, List.set_cons_succ])
      refine wpAnyH_take (i := 23) (oi := { dst := some 40, op := Op.pick (Operand.tmp 28) (Operand.const (Value.bool true)) (Operand.tmp 39), type := 4, pos := "core.go:392", after := #[{ on := 11, ground := Ground.data }, { on := 22, ground := Ground.data }], guard := none }) (v := ?_) rfl (by kernel_rfl) (by kernel_rfl) (by kernel_rfl) (fun _ _ _ h => h) (Or.inl ⟨by first | rfl | kernel_rfl, ?_⟩) (by assumption) ?_
      rotate_left 1
      · intro w9 hSw; (try dsimp only at hSw); go_simp; (try with_reducible rfl)
      (try simp only [Act.put, List.setIfInBounds_toArray, List.set_cons_zero, List.set_cons_succ])
      refine wpAnyH_take (i := 24) (oi := { dst := some 41, op := Op.move (Operand.tmp 40), type := 4, pos := "core.go:392", after := #[{ on := 23, ground := Ground.data }, { on := 11, ground := Ground.chain }], guard := none }) (v := ?_) rfl (by kernel_rfl) (by kernel_rfl) (by kernel_rfl) (fun _ _ _ h => h) (Or.inl ⟨by first | rfl | kernel_rfl, ?_⟩) (by assumption) ?_
      rotate_left 1
      · intro w9 hSw; (try dsimp only at hSw); go_simp; (try with_reducible rfl)
      (try simp only [Act.put, List.setIfInBounds_toArray, List.set_cons_zero, List.set_cons_succ])
      refine wpAnyH_take (i := 25) (oi := { dst := some 42, op := Op.move (Operand.tmp 0), type := 22, pos := "core.go:392", after := #[{ on := 24, ground := Ground.guard }], guard := some (24, false) }) (v := ?_) rfl (by kernel_rfl) (by kernel_rfl) (by kernel_rfl) (fun _ _ _ h => h) (Or.inl ⟨by first | rfl | kernel_rfl, ?_⟩) (by assumption) ?_
      rotate_left 1
      · intro w9 hSw; (try dsimp only at hSw); go_simp; (try with_reducible rfl)
      (try simp only [Act.put, List.setIfInBounds_toArray, List.set_cons_zero, List.set_cons_succ])
      refine wpAnyH_take (i := 26) (oi := { dst := some 43, op := Op.move (Operand.tmp 5), type := 3, pos := "core.go:392", after := #[{ on := 24, ground := Ground.guard }], guard := some (24, false) }) (v := ?_) rfl (by kernel_rfl) (by kernel_rfl) (by kernel_rfl) (fun _ _ _ h => h) (Or.inl ⟨by first | rfl | kernel_rfl, ?_⟩) (by assumption) ?_
      rotate_left 1
      · intro w9 hSw; (try dsimp only at hSw); go_simp; (try with_reducible rfl)
      (try simp only [Act.put, List.setIfInBounds_toArray, List.set_cons_zero, List.set_cons_succ])
      refine wpAnyH_take (i := 27) (oi := { dst := some 44, op := Op.indexAddr 22 (Operand.tmp 42) (Operand.tmp 43), type := 0, pos := "core.go:392", after := #[{ on := 25, ground := Ground.data }, { on := 26, ground := Ground.data }, { on := 24, ground := Ground.guard }], guard := some (24, false) }) (v := ?_) rfl (by kernel_rfl) (by kernel_rfl) (by kernel_rfl) (fun _ _ _ h => h) (Or.inl ⟨by first | rfl | kernel_rfl, ?_⟩) (by assumption) ?_
      rotate_left 1
      · intro w9 hSw; (try dsimp only at hSw); go_simp; (try with_reducible rfl)
      (try simp only [Act.put, List.setIfInBounds_toArray, List.set_cons_zero, List.set_cons_succ])
      refine wpAnyH_take (i := 28) (oi := { dst := some 45, op := Op.fieldAddr 28 (Operand.tmp 44) 2, type := 0, pos := "core.go:392", after := #[{ on := 27, ground := Ground.data }, { on := 24, ground := Ground.guard }], guard := some (24, false) }) (v := ?_) rfl (by kernel_rfl) (by kernel_rfl) (by kernel_rfl) (fun _ _ _ h => h) (Or.inl ⟨by first | rfl | kernel_rfl, ?_⟩) (by assumption) ?_
      rotate_left 1
      · intro w9 hSw; (try dsimp only at hSw); go_simp; (try with_reducible rfl)
      (try simp only [Act.put, List.setIfInBounds_toArray, List.set_cons_zero, List.set_cons_succ])
      refine wpAnyH_take (i := 29) (oi := { dst := some 46, op := Op.load 25 (Operand.tmp 45), type := 25, pos := "core.go:392", after := #[{ on := 28, ground := Ground.data }, { on := 24, ground := Ground.guard }], guard := some (24, false) }) (v := ?_) rfl (by kernel_rfl) (by kernel_rfl) (by kernel_rfl) (fun _ _ _ h => h) (Or.inl ⟨by first | rfl | kernel_rfl, ?_⟩) (by assumption) ?_
      rotate_left 1
      · intro w9 hSw; (try dsimp only at hSw); go_simp; (try with_reducible rfl)
      (try simp only [Act.put, List.setIfInBounds_toArray, List.set_cons_zero, List.set_cons_succ])
      refine wpAnyH_take (i := 30) (oi := { dst := some 47, op := Op.move (Operand.tmp 1), type := 22, pos := "core.go:392", after := #[{ on := 24, ground := Ground.guard }], guard := some (24, false) }) (v := ?_) rfl (by kernel_rfl) (by kernel_rfl) (by kernel_rfl) (fun _ _ _ h => h) (Or.inl ⟨by first | rfl | kernel_rfl, ?_⟩) (by assumption) ?_
      rotate_left 1
      · intro w9 hSw; (try dsimp only at hSw); go_simp; (try with_reducible rfl)
      (try simp only [Act.put, List.setIfInBounds_toArray, List.set_cons_zero, List.set_cons_succ])
      refine wpAnyH_take (i := 31) (oi := { dst := some 48, op := Op.move (Operand.tmp 5), type := 3, pos := "core.go:392", after := #[{ on := 24, ground := Ground.guard }], guard := some (24, false) }) (v := ?_) rfl (by kernel_rfl) (by kernel_rfl) (by kernel_rfl) (fun _ _ _ h => h) (Or.inl ⟨by first | rfl | kernel_rfl, ?_⟩) (by assumption) ?_
      rotate_left 1
      · intro w9 hSw; (try dsimp only at hSw); go_simp; (try with_reducible rfl)
      (try simp only [Act.put, List.setIfInBounds_toArray, List.set_cons_zero, List.set_cons_succ])
      refine wpAnyH_take (i := 32) (oi := { dst := some 49, op := Op.indexAddr 22 (Operand.tmp 47) (Operand.tmp 48), type := 0, pos := "core.go:392", after := #[{ on := 30, ground := Ground.data }, { on := 31, ground := Ground.data }, { on := 24, ground := Ground.guard }], guard := some (24, false) }) (v := ?_) rfl (by kernel_rfl) (by kernel_rfl) (by kernel_rfl) (fun _ _ _ h => h) (Or.inl ⟨by first | rfl | kernel_rfl, ?_⟩) (by assumption) ?_
      rotate_left 1
      · intro w9 hSw; (try dsimp only at hSw); go_simp; (try with_reducible rfl)
      (try simp only [Act.put, List.setIfInBounds_toArray, List.set_cons_zero, List.set_cons_succ])
      refine wpAnyH_take (i := 33) (oi := { dst := some 50, op := Op.fieldAddr 28 (Operand.tmp 49) 2, type := 0, pos := "core.go:392", after := #[{ on := 32, ground := Ground.data }, { on := 24, ground := Ground.guard }], guard := some (24, false) }) (v := ?_) rfl (by kernel_rfl) (by kernel_rfl) (by kernel_rfl) (fun _ _ _ h => h) (Or.inl ⟨by first | rfl | kernel_rfl, ?_⟩) (by assumption) ?_
      rotate_left 1
      · intro w9 hSw; (try dsimp only at hSw); go_simp; (try with_reducible rfl)
      (try simp only [Act.put, List.setIfInBounds_toArray, List.set_cons_zero, List.set_cons_succ])
      refine wpAnyH_take (i := 34) (oi := { dst := some 51, op := Op.load 25 (Operand.tmp 50), type := 25, pos := "core.go:392", after := #[{ on := 33, ground := Ground.data }, { on := 24, ground := Ground.guard }], guard := some (24, false) }) (v := ?_) rfl (by kernel_rfl) (by kernel_rfl) (by kernel_rfl) (fun _ _ _ h => h) (Or.inl ⟨by first | rfl | kernel_rfl, ?_⟩) (by assumption) ?_
      rotate_left 1
      · intro w9 hSw; (try dsimp only at hSw); go_simp; (try with_reducible rfl)
      (try simp only [Act.put, List.setIfInBounds_toArray, List.set_cons_zero, List.set_cons_succ])
      refine wpAnyH_ready (rs := [35]) (by kernel_rfl) (by simp) ?_
      refine AllReadyH.cons (o := { dst := some 52, op := Op.call { callee := Callee.value (Operand.func 56), args := #[Operand.tmp 46, Operand.tmp 51], argTypes := #[25, 25] }, type := 4, pos := "core.go:392", after := #[{ on := 29, ground := Ground.data }, { on := 34, ground := Ground.data }, { on := 24, ground := Ground.chain }, { on := 24, ground := Ground.guard }], guard := some (24, false) }) rfl (fun K hK => ?_) AllReadyH.nil
      go_simp
      (go_at_call 56; refine (two_arm HG2 HH2 hl2 (show Two ad bd j x A2 A3 A4 B2 B3 B4 c2 c3 c4 d2 d3 d4 w _ from ‹_ ∧ _ ∧ _ ∧ _ ∧ _ ∧ _ ∧ _ ∧ _ ∧ _ ∧ _ ∧ Hid (Below w.heap.size w _)›)).mono ?_; rintro e wn ⟨rfl, hNew⟩)
      refine hK.out _ _ hNew (fun hHeld => ?_)
      clear hK K
      (try simp only [Act.put, List.setIfInBounds_toArray, List.set_cons_zero, List.set_cons_succ])
      clear hNew
      refine wpAnyH_take (i := 36) (oi := { dst := some 53, op := Op.unOp UnOp.not 4 (Operand.tmp 52), type := 4, pos := "core.go:392", after := #[{ on := 35, ground := Ground.data }, { on := 24, ground := Ground.guard }], guard := some (24, false) }) (v := ?_) rfl (by kernel_rfl) (by kernel_rfl) (by kernel_rfl) (fun _ _ _ h => h) (Or.inl ⟨by first | rfl | kernel_rfl, ?_⟩) (by assumption) ?_
      rotate_left 1
      · intro w9 hSw; (try dsimp only at hSw); go_simp; (try with_reducible rfl)
      (try simp only [Act.put, List.setIfInBounds_toArray, List.set_cons_zero, List.set_cons_succ])
      refine wpAnyH_take (i := 37) (oi := { dst := some 54, op := Op.pick (Operand.tmp 41) (Operand.const (Value.bool true)) (Operand.tmp 53), type := 4, pos := "core.go:392", after := #[{ on := 24, ground := Ground.data }, { on := 36, ground := Ground.data }], guard := none }) (v := ?_) rfl (by kernel_rfl) (by kernel_rfl) (by kernel_rfl) (fun _ _ _ h => h) (Or.inl ⟨by first | rfl | kernel_rfl, ?_⟩) (by assumption) ?_
      rotate_left 1
      · intro w9 hSw; (try dsimp only at hSw); go_simp; (try with_reducible rfl)
      (try simp only [Act.put, List.setIfInBounds_toArray, List.set_cons_zero, List.set_cons_succ])
      refine wpAnyH_take (i := 38) (oi := { dst := some 55, op := Op.move (Operand.tmp 54), type := 4, pos := "core.go:392", after := #[{ on := 37, ground := Ground.data }, { on := 35, ground := Ground.chain }], guard := none }) (v := ?_) rfl (by kernel_rfl) (by kernel_rfl) (by kernel_rfl) (fun _ _ _ h => h) (Or.inl ⟨by first | rfl | kernel_rfl, ?_⟩) (by assumption) ?_
      rotate_left 1
      · intro w9 hSw; (try dsimp only at hSw); go_simp; (try with_reducible rfl)
      (try simp only [Act.put, List.setIfInBounds_toArray, List.set_cons_zero, List.set_cons_succ])
      refine wpAnyH_take (i := 39) (oi := { dst := some 56, op := Op.move (Operand.tmp 0), type := 22, pos := "core.go:392", after := #[{ on := 38, ground := Ground.guard }], guard := some (38, false) }) (v := ?_) rfl (by kernel_rfl) (by kernel_rfl) (by kernel_rfl) (fun _ _ _ h => h) (Or.inl ⟨by first | rfl | kernel_rfl, ?_⟩) (by assumption) ?_
      rotate_left 1
      · intro w9 hSw; (try dsimp only at hSw); go_simp; (try with_reducible rfl)
      (try simp only [Act.put, List.setIfInBounds_toArray, List.set_cons_zero, List.set_cons_succ])
      refine wpAnyH_take (i := 40) (oi := { dst := some 57, op := Op.move (Operand.tmp 5), type := 3, pos := "core.go:392", after := #[{ on := 38, ground := Ground.guard }], guard := some (38, false) }) (v := ?_) rfl (by kernel_rfl) (by kernel_rfl) (by kernel_rfl) (fun _ _ _ h => h) (Or.inl ⟨by first | rfl | kernel_rfl, ?_⟩) (by assumption) ?_
      rotate_left 1
      · intro w9 hSw; (try dsimp only at hSw); go_simp; (try with_reducible rfl)
      (try simp only [Act.put, List.setIfInBounds_toArray, List.set_cons_zero, List.set_cons_succ])
      refine wpAnyH_take (i := 41) (oi := { dst := some 58, op := Op.indexAddr 22 (Operand.tmp 56) (Operand.tmp 57), type := 0, pos := "core.go:392", after := #[{ on := 39, ground := Ground.data }, { on := 40, ground := Ground.data }, { on := 38, ground := Ground.guard }], guard := some (38, false) }) (v := ?_) rfl (by kernel_rfl) (by kernel_rfl) (by kernel_rfl) (fun _ _ _ h => h) (Or.inl ⟨by first | rfl | kernel_rfl, ?_⟩) (by assumption) ?_
      rotate_left 1
      · intro w9 hSw; (try dsimp only at hSw); go_simp; (try with_reducible rfl)
      (try simp only [Act.put, List.setIfInBounds_toArray, List.set_cons_zero, List.set_cons_succ])
      refine wpAnyH_take (i := 42) (oi := { dst := some 59, op := Op.fieldAddr 28 (Operand.tmp 58) 3, type := 0, pos := "core.go:392", after := #[{ on := 41, ground := Ground.data }, { on := 38, ground := Ground.guard }], guard := some (38, false) }) (v := ?_) rfl (by kernel_rfl) (by kernel_rfl) (by kernel_rfl) (fun _ _ _ h => h) (Or.inl ⟨by first | rfl | kernel_rfl, ?_⟩) (by assumption) ?_
      rotate_left 1
      · intro w9 hSw; (try dsimp only at hSw); go_simp; (try with_reducible rfl)
      (try simp only [Act.put, List.setIfInBounds_toArray, List.set_cons_zero, List.set_cons_succ])
      refine wpAnyH_take (i := 43) (oi := { dst := some 60, op := Op.load 25 (Operand.tmp 59), type := 25, pos := "core.go:392", after := #[{ on := 42, ground := Ground.data }, { on := 38, ground := Ground.guard }], guard := some (38, false) }) (v := ?_) rfl (by kernel_rfl) (by kernel_rfl) (by kernel_rfl) (fun _ _ _ h => h) (Or.inl ⟨by first | rfl | kernel_rfl, ?_⟩) (by assumption) ?_
      rotate_left 1
      · intro w9 hSw; (try dsimp only at hSw); go_simp; (try with_reducible rfl)
      (try simp only [Act.put, List.setIfInBounds_toArray, List.set_cons_zero, List.set_cons_succ])
      refine wpAnyH_take (i := 44) (oi := { dst := some 61, op := Op.move (Operand.tmp 1), type := 22, pos := "core.go:392", after := #[{ on := 38, ground := Ground.guard }], guard := some (38, false) }) (v := ?_) rfl (by kernel_rfl) (by kernel_rfl) (by kernel_rfl) (fun _ _ _ h => h) (Or.inl ⟨by first | rfl | kernel_rfl, ?_⟩) (by assumption) ?_
      rotate_left 1
      · intro w9 hSw; (try dsimp only at hSw); go_simp; (try with_reducible rfl)
      (try simp only [Act.put, List.setIfInBounds_toArray, List.set_cons_zero, List.set_cons_succ])
      refine wpAnyH_take (i := 45) (oi := { dst := some 62, op := Op.move (Operand.tmp 5), type := 3, pos := "core.go:392", after := #[{ on := 38, ground := Ground.guard }], guard := some (38, false) }) (v := ?_) rfl (by kernel_rfl) (by kernel_rfl) (by kernel_rfl) (fun _ _ _ h => h) (Or.inl ⟨by first | rfl | kernel_rfl, ?_⟩) (by assumption) ?_
      rotate_left 1
      · intro w9 hSw; (try dsimp only at hSw); go_simp; (try with_reducible rfl)
      (try simp only [Act.put, List.setIfInBounds_toArray, List.set_cons_zero, List.set_cons_succ])
      refine wpAnyH_take (i := 46) (oi := { dst := some 63, op := Op.indexAddr 22 (Operand.tmp 61) (Operand.tmp 62), type := 0, pos := "core.go:392", after := #[{ on := 44, ground := Ground.data }, { on := 45, ground := Ground.data }, { on := 38, ground := Ground.guard }], guard := some (38, false) }) (v := ?_) rfl (by kernel_rfl) (by kernel_rfl) (by kernel_rfl) (fun _ _ _ h => h) (Or.inl ⟨by first | rfl | kernel_rfl, ?_⟩) (by assumption) ?_
      rotate_left 1
      · intro w9 hSw; (try dsimp only at hSw); go_simp; (try with_reducible rfl)
      (try simp only [Act.put, List.setIfInBounds_toArray, List.set_cons_zero, List.set_cons_succ])
      refine wpAnyH_take (i := 47) (oi := { dst := some 64, op := Op.fieldAddr 28 (Operand.tmp 63) 3, type := 0, pos := "core.go:392", after := #[{ on := 46, ground := Ground.data }, { on := 38, ground := Ground.guard }], guard := some (38, false) }) (v := ?_) rfl (by kernel_rfl) (by kernel_rfl) (by kernel_rfl) (fun _ _ _ h => h) (Or.inl ⟨by first | rfl | kernel_rfl, ?_⟩) (by assumption) ?_
      rotate_left 1
      · intro w9 hSw; (try dsimp only at hSw); go_simp; (try with_reducible rfl)
      (try simp only [Act.put, List.setIfInBounds_toArray, List.set_cons_zero, List.set_cons_succ])
      refine wpAnyH_take (i := 48) (oi := { dst := some 65, op := Op.load 25 (Operand.tmp 64), type := 25, pos := "core.go:392", after := #[{ on := 47, ground := Ground.data }, { on := 38, ground := Ground.guard }], guard := some (38, false) }) (v := ?_) rfl (by kernel_rfl) (by kernel_rfl) (by kernel_rfl) (fun _ _ _ h => h) (Or.inl ⟨by first | rfl | kernel_rfl, ?_⟩) (by assumption) ?_
      rotate_left 1
      · intro w9 hSw; (try dsimp only at hSw); go_simp; (try with_reducible rfl)
      (try simp only [Act.put, List.setIfInBounds_toArray, List.set_cons_zero, List.set_cons_succ])
      refine wpAnyH_ready (rs := [49]) (by kernel_rfl) (by simp) ?_
      refine AllReadyH.cons (o := { dst := some 66, op := Op.call { callee := Callee.value (Operand.func 56), args := #[Operand.tmp 60, Operand.tmp 65], argTypes := #[25, 25] }, type := 4, pos := "core.go:392", after := #[{ on := 43, ground := Ground.data }, { on := 48, ground := Ground.data }, { on := 38, ground := Ground.chain }, { on := 38, ground := Ground.guard }], guard := some (38, false) }) rfl (fun K hK => ?_) AllReadyH.nil
      go_simp
      (go_at_call 56; refine (two_arm HG3 HH3 hl3 (show Two ad bd j x A2 A3 A4 B2 B3 B4 c2 c3 c4 d2 d3 d4 w _ from ‹_ ∧ _ ∧ _ ∧ _ ∧ _ ∧ _ ∧ _ ∧ _ ∧ _ ∧ _ ∧ Hid (Below w.heap.size w _)›)).mono ?_; rintro e wn ⟨rfl, hNew⟩)
      refine hK.out _ _ hNew (fun hHeld => ?_)
      clear hK K
      (try simp only [Act.put, List.setIfInBounds_toArray, List.set_cons_zero, List.set_cons_succ])
      refine wpAnyH_take (i := 50) (oi := { dst := some 67, op := Op.unOp UnOp.not 4 (Operand.tmp 66), type := 4, pos := "core.go:392", after := #[{ on := 49, ground := Ground.data }, { on := 38, ground := Ground.guard }], guard := some (38, false) }) (v := ?_) rfl (by kernel_rfl) (by kernel_rfl) (by kernel_rfl) (fun _ _ _ h => h) (Or.inl ⟨by first | rfl | kernel_rfl, ?_⟩) (by assumption) ?_
      rotate_left 1
      · intro w9 hSw; (try dsimp only at hSw); go_simp; (try with_reducible rfl)
      (try simp only [Act.put, List.setIfInBounds_toArray, List.set_cons_zero, List.set_cons_succ])
      refine wpAnyH_take (i := 51) (oi := { dst := some 68, op := Op.pick (Operand.tmp 55) (Operand.const (Value.bool true)) (Operand.tmp 67), type := 4, pos := "core.go:392", after := #[{ on := 38, ground := Ground.data }, { on := 50, ground := Ground.data }], guard := none }) (v := ?_) rfl (by kernel_rfl) (by kernel_rfl) (by kernel_rfl) (fun _ _ _ h => h) (Or.inl ⟨by first | rfl | kernel_rfl, ?_⟩) (by assumption) ?_
      rotate_left 1
      · intro w9 hSw; (try dsimp only at hSw); go_simp; (try with_reducible rfl)
      (try simp only [Act.put, List.setIfInBounds_toArray, List.set_cons_zero, List.set_cons_succ])
      refine wpAnyH_take (i := 52) (oi := { dst := some 69, op := Op.move (Operand.tmp 68), type := 4, pos := "core.go:392", after := #[{ on := 51, ground := Ground.data }, { on := 49, ground := Ground.chain }], guard := none }) (v := ?_) rfl (by kernel_rfl) (by kernel_rfl) (by kernel_rfl) (fun _ _ _ h => h) (Or.inl ⟨by first | rfl | kernel_rfl, ?_⟩) (by assumption) ?_
      rotate_left 1
      · intro w9 hSw; (try dsimp only at hSw); go_simp; (try with_reducible rfl)
      (try simp only [Act.put, List.setIfInBounds_toArray, List.set_cons_zero, List.set_cons_succ])
      refine wpAnyH_take (i := 53) (oi := { dst := some 70, op := Op.move (Operand.tmp 0), type := 22, pos := "core.go:392", after := #[{ on := 52, ground := Ground.guard }], guard := some (52, false) }) (v := ?_) rfl (by kernel_rfl) (by kernel_rfl) (by kernel_rfl) (fun _ _ _ h => h) (Or.inl ⟨by first | rfl | kernel_rfl, ?_⟩) (by assumption) ?_
      rotate_left 1
      · intro w9 hSw; (try dsimp only at hSw); go_simp; (try with_reducible rfl)
      (try simp only [Act.put, List.setIfInBounds_toArray, List.set_cons_zero, List.set_cons_succ])
      refine wpAnyH_take (i := 54) (oi := { dst := some 71, op := Op.move (Operand.tmp 5), type := 3, pos := "core.go:392", after := #[{ on := 52, ground := Ground.guard }], guard := some (52, false) }) (v := ?_) rfl (by kernel_rfl) (by kernel_rfl) (by kernel_rfl) (fun _ _ _ h => h) (Or.inl ⟨by first | rfl | kernel_rfl, ?_⟩) (by assumption) ?_
      rotate_left 1
      · intro w9 hSw; (try dsimp only at hSw); go_simp; (try with_reducible rfl)
      (try simp only [Act.put, List.setIfInBounds_toArray, List.set_cons_zero, List.set_cons_succ])
      refine wpAnyH_take (i := 55) (oi := { dst := some 72, op := Op.indexAddr 22 (Operand.tmp 70) (Operand.tmp 71), type := 0, pos := "core.go:392", after := #[{ on := 53, ground := Ground.data }, { on := 54, ground := Ground.data }, { on := 52, ground := Ground.guard }], guard := some (52, false) }) (v := ?_) rfl (by kernel_rfl) (by kernel_rfl) (by kernel_rfl) (fun _ _ _ h => h) (Or.inl ⟨by first | rfl | kernel_rfl, ?_⟩) (by assumption) ?_
      rotate_left 1
      · intro w9 hSw; (try dsimp only at hSw); go_simp; (try with_reducible rfl)
      (try simp only [Act.put, List.setIfInBounds_toArray, List.set_cons_zero, List.set_cons_succ])
      refine wpAnyH_take (i := 56) (oi := { dst := some 73, op := Op.fieldAddr 28 (Operand.tmp 72) 4, type := 0, pos := "core.go:392", after := #[{ on := 55, ground := Ground.data }, { on := 52, ground := Ground.guard }], guard := some (52, false) }) (v := ?_) rfl (by kernel_rfl) (by kernel_rfl) (by kernel_rfl) (fun _ _ _ h => h) (Or.inl ⟨by first | rfl | kernel_rfl, ?_⟩) (by assumption) ?_
      rotate_left 1
      · intro w9 hSw; (try dsimp only at hSw); go_simp; (try with_reducible rfl)
      (try simp only [Act.put, List.setIfInBounds_toArray, List.set_cons_zero, List.set_cons_succ])
      refine wpAnyH_take (i := 57) (oi := { dst := some 74, op := Op.load 26 (Operand.tmp 73), type := 26, pos := "core.go:392", after := #[{ on := 56, ground := Ground.data }, { on := 52, ground := Ground.guard }], guard := some (52, false) }) (v := ?_) rfl (by kernel_rfl) (by kernel_rfl) (by kernel_rfl) (fun _ _ _ h => h) (Or.inl ⟨by first | rfl | kernel_rfl, ?_⟩) (by assumption) ?_
      rotate_left 1
      · intro w9 hSw; (try dsimp only at hSw); go_simp; (try with_reducible rfl)
      (try simp only [Act.put, List.setIfInBounds_toArray, List.set_cons_zero, List.set_cons_succ])
      refine wpAnyH_take (i := 58) (oi := { dst := some 75, op := Op.call { callee := Callee.builtin Builtin.len, args := #[Operand.tmp 74], argTypes := #[26] }, type := 3, pos := "core.go:392", after := #[{ on := 57, ground := Ground.data }, { on := 52, ground := Ground.guard }], guard := some (52, false) }) (v := ?_) rfl (by kernel_rfl) (by kernel_rfl) (by kernel_rfl) (fun _ _ _ h => h) (Or.inl ⟨by first | rfl | kernel_rfl, ?_⟩) (by assumption) ?_
      rotate_left 1
      · intro w9 hSw; (try dsimp only at hSw); go_simp; (try with_reducible rfl)
      (try simp only [Act.put, List.setIfInBounds_toArray, List.set_cons_zero, List.set_cons_succ])
      refine wpAnyH_take (i := 59) (oi := { dst := some 76, op := Op.move (Operand.tmp 1), type := 22, pos := "core.go:392", after := #[{ on := 52, ground := Ground.guard }], guard := some (52, false) }) (v := ?_) rfl (by kernel_rfl) (by kernel_rfl) (by kernel_rfl) (fun _ _ _ h => h) (Or.inl ⟨by first | rfl | kernel_rfl, ?_⟩) (by assumption) ?_
      rotate_left 1
      · intro w9 hSw; (try dsimp only at hSw); go_simp; (try with_reducible rfl)
      (try simp only [Act.put, List.setIfInBounds_toArray, List.set_cons_zero, List.set_cons_succ])
      refine wpAnyH_take (i := 60) (oi := { dst := some 77, op := Op.move (Operand.tmp 5), type := 3, pos := "core.go:392", after := #[{ on := 52, ground := Ground.guard }], guard := some (52, false) }) (v := ?_) rfl (by kernel_rfl) (by kernel_rfl) (by kernel_rfl) (fun _ _ _ h => h) (Or.inl ⟨by first | rfl | kernel_rfl, ?_⟩) (by assumption) ?_
      rotate_left 1
      · intro w9 hSw; (try dsimp only at hSw); go_simp; (try with_reducible rfl)
      (try simp only [Act.put, List.setIfInBounds_toArray, List.set_cons_zero, List.set_cons_succ])
      refine wpAnyH_take (i := 61) (oi := { dst := some 78, op := Op.indexAddr 22 (Operand.tmp 76) (Operand.tmp 77), type := 0, pos := "core.go:392", after := #[{ on := 59, ground := Ground.data }, { on := 60, ground := Ground.data }, { on := 52, ground := Ground.guard }], guard := some (52, false) }) (v := ?_) rfl (by kernel_rfl) (by kernel_rfl) (by kernel_rfl) (fun _ _ _ h => h) (Or.inl ⟨by first | rfl | kernel_rfl, ?_⟩) (by assumption) ?_
      rotate_left 1
      · intro w9 hSw; (try dsimp only at hSw); go_simp; (try with_reducible rfl)
      (try simp only [Act.put, List.setIfInBounds_toArray, List.set_cons_zero, List.set_cons_succ])
      refine wpAnyH_take (i := 62) (oi := { dst := some 79, op := Op.fieldAddr 28 (Operand.tmp 78) 4, type := 0, pos := "core.go:392", after := #[{ on := 61, ground := Ground.data }, { on := 52, ground := Ground.guard }], guard := some (52, false) }) (v := ?_) rfl (by kernel_rfl) (by kernel_rfl) (by kernel_rfl) (fun _ _ _ h => h) (Or.inl ⟨by first | rfl | kernel_rfl, ?_⟩) (by assumption) ?_
      rotate_left 1
      · intro w9 hSw; (try dsimp only at hSw); go_simp; (try with_reducible rfl)
      (try simp only [Act.put, List.setIfInBounds_toArray, List.set_cons_zero, List.set_cons_succ])
      refine wpAnyH_take (i := 63) (oi := { dst := some 80, op := Op.load 26 (Operand.tmp 79), type := 26, pos := "core.go:392", after := #[{ on := 62, ground := Ground.data }, { on := 52, ground := Ground.guard }], guard := some (52, false) }) (v := ?_) rfl (by kernel_rfl) (by kernel_rfl) (by kernel_rfl) (fun _ _ _ h => h) (Or.inl ⟨by first | rfl | kernel_rfl, ?_⟩) (by assumption) ?_
      rotate_left 1
      · intro w9 hSw; (try dsimp only at hSw); go_simp; (try with_reducible rfl)
      (try simp only [Act.put, List.setIfInBounds_toArray, List.set_cons_zero, List.set_cons_succ])
      refine wpAnyH_take (i := 64) (oi := { dst := some 81, op := Op.call { callee := Callee.builtin Builtin.len, args := #[Operand.tmp 80], argTypes := #[26] }, type := 3, pos := "core.go:392", after := #[{ on := 63, ground := Ground.data }, { on := 52, ground := Ground.guard }], guard := some (52, false) }) (v := ?_) rfl (by kernel_rfl) (by kernel_rfl) (by kernel_rfl) (fun _ _ _ h => h) (Or.inl ⟨by first | rfl | kernel_rfl, ?_⟩) (by assumption) ?_
      rotate_left 1
      · intro w9 hSw; (try dsimp only at hSw); go_simp; (try with_reducible rfl)
      (try simp only [Act.put, List.setIfInBounds_toArray, List.set_cons_zero, List.set_cons_succ])
      refine wpAnyH_take (i := 65) (oi := { dst := some 82, op := Op.binOp BinOp.neq 3 (Operand.tmp 75) (Operand.tmp 81) 3, type := 4, pos := "core.go:392", after := #[{ on := 58, ground := Ground.data }, { on := 64, ground := Ground.data }, { on := 52, ground := Ground.guard }], guard := some (52, false) }) (v := ?_) rfl (by kernel_rfl) (by kernel_rfl) (by kernel_rfl) (fun _ _ _ h => h) (Or.inl ⟨by first | rfl | kernel_rfl, ?_⟩) (by assumption) ?_
      rotate_left 1
      · intro w9 hSw; (try dsimp only at hSw); go_simp; (try with_reducible rfl)
      (try simp only [Act.put, List.setIfInBounds_toArray, List.set_cons_zero, List.set_cons_succ])
      refine wpAnyH_take (i := 66) (oi := { dst := some 83, op := Op.pick (Operand.tmp 69) (Operand.const (Value.bool true)) (Operand.tmp 82), type := 4, pos := "core.go:392", after := #[{ on := 52, ground := Ground.data }, { on := 65, ground := Ground.data }], guard := none }) (v := ?_) rfl (by kernel_rfl) (by kernel_rfl) (by kernel_rfl) (fun _ _ _ h => h) (Or.inl ⟨by first | rfl | kernel_rfl, ?_⟩) (by assumption) ?_
      rotate_left 1
      · intro w9 hSw; (try dsimp only at hSw); go_simp; (try with_reducible rfl)
      (try simp only [Act.put, List.setIfInBounds_toArray, List.set_cons_zero, List.set_cons_succ])
      refine wpAnyH_done (by kernel_rfl) ?_ _
      have HB2 := Go.Lib.hid hNew.2.2.2.2.2.2.2.2.2.2.out

      obtain ⟨-, -, -, -, p4, -⟩ := hNew
      clear HTW hl2 hl3
      go_wp2_with fail
      go_loopg [90] x.f4.length (fun g_ v90 w' => ∃ k : Nat, Hid (k + g_ = x.f4.length) ∧ v90 = .int .i64 k ∧ Hid (Below w.heap.size w w'))
      case atStart => exact ⟨0, Go.Lib.hid (by omega), rfl, HB2⟩
      case round =>
        obtain ⟨k, hk, rfl, hbk⟩ := hrel
        obtain ⟨wi, hwi⟩ : ∃ wi : World, wi = wr := ⟨_, rfl⟩
        subst hwi
        by_cases hlt : k < x.f4.length
        · have hltk : (k : Int) < (x.f4.length : Int) := by omega
          have hk0 : (0 : Int) ≤ (k : Int) := by omega
          have HK := Go.Lib.hid hlt
          obtain ⟨ae, A1, c1, e_, r0, r1, r2, r3⟩ := at_T86 HG4.out (k : Int) hk0 hltk
          cases e_
          obtain ⟨be, B1, d1, e_, s0, s1, s2, s3⟩ := at_T86 HH4.out (k : Int) hk0 hltk
          cases e_
          have hab := HSM.out.ab _ (List.getElem_mem hlt)
          rw [← rdA_nat x.f4 k hlt] at hab
          rw [Int.toNat_natCast] at r0 r1 s0 s1
          generalize rd_T86 x.f4 (k : Int) = a at r0 r1 r2 r3 s0 s1 s2 s3 hab
          have hy0 : (a.f0 != a.f0) = false := by simp
          replace r0 := pw_cell_below hbk.out r0
          replace r1 := pw_cell_below hbk.out r1
          replace s0 := pw_cell_below hbk.out s0
          replace s1 := pw_cell_below hbk.out s1
          obtain ⟨-, -, -, -, p4⟩ := HP.out wi hbk.out
          obtain ⟨-, -, -, -, q4⟩ := HQ.out wi hbk.out
          have HTW := Go.Lib.hid (show TwoA ad bd ae be j k x.f4.length a A1 (some ae) B1 (some be) c1 c4 d1 d4 w wi from ⟨p4, q4, r0, r1, s0, s1, hbk⟩)
          have HR3 := Go.Lib.hid r3
          have HS3 := Go.Lib.hid s3
          clear hlt r2 r3 s2 s3 r0 r1 s0 s1 p4 q4
          go_wp2_with fail
          go_region_held3 (fun w' => w'.cell? ⟨(ad.add (j * 5)).block, (ad.add (j * 5)).off + 4, none⟩ = some (.slice (some ae) x.f4.length c4) ∧ w'.cell? ⟨(bd.add (j * 5)).block, (bd.add (j * 5)).off + 4, none⟩ = some (.slice (some be) x.f4.length d4) ∧ w'.cell? (ae.add (k * 2)) = some (.int .i64 a.f0) ∧ w'.cell? ⟨(ae.add (k * 2)).block, (ae.add (k * 2)).off + 1, none⟩ = some (.slice A1 a.f1.length c1) ∧ w'.cell? (be.add (k * 2)) = some (.int .i64 a.f0) ∧ w'.cell? ⟨(be.add (k * 2)).block, (be.add (k * 2)).off + 1, none⟩ = some (.slice B1 a.f1.length d1) ∧ Hid (Below w.heap.size w w')) (first | exact hNew | exact HTW.out.below (below_drew (Below.refl _ _)) | exact HTW.out.below (below_dn (Below.refl _ _) _) | exact HTW.out) (
            (go_at_call 56; refine (two_armA HR3 HS3 hab (show TwoA ad bd ae be j k x.f4.length a A1 (some ae) B1 (some be) c1 c4 d1 d4 w _ from ‹_ ∧ _ ∧ _ ∧ _ ∧ _ ∧ _ ∧ Hid (Below w.heap.size w _)›)).mono ?_; rintro e wn ⟨rfl, hNew⟩))
          have HB3 := Go.Lib.hid hNew.2.2.2.2.2.2.out

          clear HTW hab hNew
          go_wp2_with fail
          go_roundg (gk - 1)
          case measure => have := hk.out; have := HK.out; omega
          case rel => exact ⟨k + 1, Go.Lib.hid (by have := hk.out; have := HK.out; omega), by go_num, HB3⟩
        · have hd : decide ((k : Int) < (x.f4.length : Int)) = false := decide_eq_false (by omega)
          have hd2 : decide (k < x.f4.length) = false := decide_eq_false hlt
          clear hlt
          go_wp2_with fail
          go_roundg (ga - 1)
          case measure => have := hj.out; have := HJ.out; omega
          case rel => exact ⟨j + 1, Go.Lib.hid (by have := hj.out; have := HJ.out; omega), by go_num, hbk⟩
    · have hd : decide ((j : Int) < (L.length : Int)) = false := decide_eq_false (by omega)
      have hd2 : decide (j < L.length) = false := decide_eq_false hlt
      have HV := Go.Lib.hid (show YesP w (.returned (.bool true)) wo from ⟨rfl, hb.out⟩)
      clear hlt hj
      go_wp2_with fail
      go_ret
      exact HV.out
end Go.Proofs.YtjhinklijopobaaDoor.Co
