/- modules.walk. -/
import Derived.Test.YtdobkkoonamocaaCb
import Derived.Test.YtdobkkoonamocaaCx
import Derived.Lib.SliceRun
import Derived.Deep.RegionHeld3
namespace Go.Proofs.Ytdobkkoonamocaa.Mo
open Go.RowKit Go.Lib Go.Proofs.Ytdobkkoonamocaa.PModulesOrdered Go.Proofs.YtdobkkoonamocaaW.PrintWords Go.Proofs.YtdobkkoonamocaaW.PrintLast Go.Proofs.YtdobkkoonamocaaW.PrintMore
set_option linter.unusedVariables false
set_option linter.unusedSimpArgs false
theorem q22 (w : World) (a : Option Addr) (n c n' c' : Nat) : (binOp .eql 22 (.slice a n c) (.slice none n' c')).run Try.prog w = .ok (.bool a.isNone) w := Lib.run_eql_slice_nil w _ _ a n c n' c' Try.underlying22
theorem n22 (w : World) (a : Option Addr) (n c n' c' : Nat) : (binOp .neq 22 (.slice a n c) (.slice none n' c')).run Try.prog w = .ok (.bool (!a.isNone)) w := by
  simp only [binOp]
  simp [Op.equal, Op.maxDepth, run_equalIn_slice_nil w 9999 22 9 a n c n' c' Try.underlying22]
/-- What walk answers. -/
def ResW (o : Option (List Str)) (e : Ending) (w' : World) : Prop := match o with
  | none => e = .returned (.slice none 0 0)
  | some l => ∃ (ad : Addr) (c' : Nat) (L : List ByteArray), e = .returned (.slice (some ad) L.length c') ∧ dS L = l ∧ RdS w' (some ad) L ∧ L.length ≤ c'
theorem own_ad {W : World} {B : Nat} {A : Option Addr} {c : Nat} {l : List ByteArray} (h : W.ownsRow B 9 1 (.slice A l.length c) l.length (strsV l)) (hl : l ≠ []) : ∃ g, A = some ⟨g, 0, none⟩ := by
  rcases h.2 with ⟨_, h0⟩ | ⟨g, cap, cur, e0, _⟩
  · exact absurd (List.length_eq_zero_iff.1 h0) hl
  · injection e0 with e1 _ _
    exact ⟨g, e1⟩
theorem own_at {W : World} {B g c : Nat} {l : List ByteArray} (h : W.ownsRow B 9 1 (.slice (some ⟨g, 0, none⟩) l.length c) l.length (strsV l)) {j : Nat} {y : ByteArray} (hj : l[j]? = some y) : W.cell? ⟨g, j, none⟩ = some (.string y) := by
  obtain ⟨ad, e, hc⟩ := (own_C2 h).at_ hj
  injection e with e
  rw [← e, add_plain] at hc
  simpa using hc
theorem hd_dS {way : List ByteArray} {y : ByteArray} (h : way[0]? = some y) : hd (dS way) = y.toList := by
  cases way with
  | nil => cases h
  | cons a r => simp at h; subst h; rfl
theorem la_dS {way : List ByteArray} {j : Nat} {y : ByteArray} (hj : way.length = j + 1) (h : way[j]? = some y) : la (dS way) = y.toList := by
  unfold la dS
  obtain ⟨hl, rfl⟩ := List.getElem?_eq_some_iff.1 h
  have hne : way ≠ [] := by intro e; rw [e] at hj; cases hj
  rw [List.getLastD_eq_getLast?, List.getLast?_map, List.getLast?_eq_getElem?, hj]
  simp [hl]
theorem clone_calls {W : World} {B g c : Nat} {way : List ByteArray} (h : W.ownsRow B 9 1 (.slice (some ⟨g, 0, none⟩) way.length c) way.length (strsV way)) (hl : way.length ≤ 1000) :
    Calls Try.prog 46 #[.slice (some ⟨g, 0, none⟩) way.length c] W fun e w' => (∃ A' c', e = .returned (.slice A' way.length c') ∧ w'.ownsRow W.heap.size 9 1 (.slice A' way.length c') way.length (strsV way)) ∧ Below W.heap.size W w' := by
  refine (Try.slices_Clone_string g 0 way.length c way W (Nat.le_refl _) (by omega) (fun j hj => ?_)).mono ?_
  · rw [Nat.zero_add]
    have h1 := own_at h (List.getElem?_eq_getElem hj)
    rw [h1, List.getD_eq_getElem?_getD, List.getElem?_eq_getElem hj]
    rfl
  · rintro e w' ⟨v, rfl, ho, _, hb⟩
    obtain ⟨A', c', rfl⟩ := own_slice ho
    rw [List.take_length] at ho
    exact ⟨⟨A', c', rfl, ho⟩, hb⟩
attribute [local go_sem] Cx.binOp_leq'
theorem small_d {nw d size : Nat} (h : nw + (d + 1) = size) (hs : size ≤ 16) : d + 2 ≤ 1000 := by omega
set_option maxHeartbeats 8000000 in
set_option maxRecDepth 100000 in
theorem walk_calls (N : List ByteArray) (I : List (List ByteArray)) (hM : Mods N I) (A0 A1 : Option Addr) (c0 c1 : Nat) (size : Nat) (hsz : size ≤ 16) (hc0 : N.length ≤ c0) (hc1 : I.length ≤ c1) :
    ∀ (d : Nat) (way : List ByteArray) (A : Option Addr) (c B : Nat) (w : World), way.length + d = size → way ≠ [] → (∀ x ∈ way, hasB N x = true) → w.ownsRow B 9 1 (.slice A way.length c) way.length (strsV way) → RdS w A0 N → Kd.C (Kd.slice 9 Kd.string) w A1 I.length I →
    Calls Try.prog 28 #[.slice A0 N.length c0, .slice A1 I.length c1, .slice A way.length c, .int .i64 size] w fun e w' => ResW (walkP (nxS N I) d (dS way)) e w' ∧ Below w.heap.size w w' := by
  intro d
  induction d with
  | zero =>
    intro way A c B w hd hne hway hown hr0 hr1
    obtain ⟨g, rfl⟩ := own_ad hown hne
    obtain ⟨j, hj⟩ : ∃ j, way.length = j + 1 := ⟨way.length - 1, by have := List.length_pos_iff.2 hne; omega⟩
    obtain ⟨y, hy⟩ : ∃ y, way[j]? = some y := ⟨_, List.getElem?_eq_getElem (by omega)⟩
    obtain ⟨z, hz⟩ : ∃ z, way[0]? = some z := ⟨_, List.getElem?_eq_getElem (by omega)⟩
    have HYY := Go.Lib.hid hy
    have HZZ := Go.Lib.hid hz
    have y0 := own_at hown hy
    have z0 := own_at hown hz
    have HLA := Go.Lib.hid (la_dS hj hy)
    have HHD := Go.Lib.hid (hd_dS hz)
    have hyN := Go.Lib.hid (hway y (List.mem_of_getElem? hy))
    have HYN := hyN
    have HW := Go.Lib.hid hway
    have HO := Go.Lib.hid hown
    have HR0 := Go.Lib.hid hr0
    have HR1 := Go.Lib.hid hr1
    have HM := Go.Lib.hid hM
    have HIX := Go.Lib.hid (fun (W : World) (h : Below w.heap.size w W) => idx_calls N y A0 c0 W (by have := hM.n16; unfold LIM; omega) (hr0.up h) hc0 hyN.out)
    have hix := Go.Lib.hid (show idxS N y.toList < I.length by rw [hM.same]; exact idx_lt hyN.out)
    have hsm := Go.Lib.hid (hM.small _ (nxB_mem hM hyN.out))
    obtain ⟨x, hx⟩ : ∃ x, x = idxS N y.toList := ⟨_, rfl⟩
    have HX := Go.Lib.hid hx
    rw [← hx] at HIX hix
    obtain ⟨nw, hnw⟩ : ∃ nw, nw = way.length := ⟨_, rfl⟩
    rw [← hnw] at hj hd ⊢
    have HNW := Go.Lib.hid hnw
    have hx1 : (x : Int) < (I.length : Int) := by have := hix.out; omega
    have hx0 : (0 : Int) ≤ (x : Int) := by omega
    have hw1 : IntKind.i64.wrap ((nw : Int) - 1) = (j : Int) := by rw [IntKind.wrap_i64]; omega
    have hj0 : (0 : Int) ≤ (j : Int) := by omega
    have hj1 : (j : Int) < (nw : Int) := by omega
    have hne1 : ((nw : Int) == (size : Int)) = true := beq_iff_eq.mpr (by omega)
    have HJ := Go.Lib.hid hj
    have HD := Go.Lib.hid hd
    clear hx hy hz hyN hway hown hr0 hr1 hM hne hnw hj hd
    go_enter Try.func28, Try.ntmps28
    go_wp2_with fail
    refine (HIX.out w (Below.refl _ _)).mono ?_
    rintro e w3 ⟨rfl, hd3⟩
    have hb3 := Go.Lib.hid hd3.below
    obtain ⟨adI, Ar, cr, rfl, q0, hcr, hRr⟩ := at_L1 (Kd.C_below HR1.out hb3.out) (x : Int) hx0 hx1
    rw [Int.toNat_natCast] at q0
    have HRr := Go.Lib.hid (show RdS w3 Ar (rd_L1 I (x : Int)) from hRr)
    have hsm2 := Go.Lib.hid (show (rd_L1 I (x : Int)).length ≤ 1048576 by have h := hsm.out; unfold nxB at h; rw [← HX.out] at h; exact h)
    have hnx := Go.Lib.hid (show nxS N I y.toList = dS (rd_L1 I (x : Int)) by rw [HX.out]; rfl)
    generalize rd_L1 I (x : Int) = rw_ at *
    clear hd3 hRr y0
    go_wp2_with fail
    refine (vals_calls Ar rw_.length cr w3).mono ?_
    rintro e w4 ⟨rfl, rfl⟩
    have hb4 := Go.Lib.hid (hb3.out.trans (below_alloc (Below.refl w3.heap.size w3) (.cells #[.slice Ar rw_.length cr] 22) |>.mono hb3.out.size))
    have hR4 := Go.Lib.hid (HRr.out.up (below_alloc (Below.refl w3.heap.size w3) (.cells #[.slice Ar rw_.length cr] 22)))
    have HSRT := Go.Lib.hid (sorted_calls w3.heap.size cr Ar rw_ _ (by have := hsm2.out; omega) hR4.out ((blk_cell (blk_new w3 _) 0).trans rfl))
    generalize w3.alloc (.cells #[.slice Ar rw_.length cr] 22) = w4 at *
    clear q0 hR4
    go_wp2_with fail
    refine HSRT.out.mono ?_
    rintro e w5 ⟨⟨A5, c5, rfl, ho5⟩, hb5⟩
    obtain ⟨X, hX⟩ : ∃ X, X = bsC ((dS rw_).mergeSort leS) := ⟨_, rfl⟩
    have hXl := Go.Lib.hid (show (dS rw_).length = X.length by rw [hX, bsC_length]; simp)
    have hXd := Go.Lib.hid (show dS X = (nxS N I (la (dS way))).mergeSort leS by rw [hX, dS_bsC, HLA.out, hnx.out])
    rw [bsC_enc, ← hX, hXl.out] at ho5
    rw [hXl.out]
    have hRX := Go.Lib.hid (own_C2 ho5)
    have hXc := own_cap ho5
    have hXs := Go.Lib.hid (show X.length ≤ 1048576 by rw [← hXl.out, dS_length]; exact hsm2.out)
    have hX9 : (X.length : Int) ≤ 1048576 := by have := hXs.out; omega
    have hX0 : (0 : Int) ≤ (X.length : Int) := by omega
    have HB5 := Go.Lib.hid (hb4.out.trans (hb5.mono hb4.out.size))
    have HKE := Go.Lib.hid (show ∀ w', Below w.heap.size w w' → w'.cell? ⟨g, j, none⟩ = some (.string y) ∧ w'.cell? ⟨g, 0, none⟩ = some (.string z) ∧ Hid (Below w.heap.size w w') from fun w' h => ⟨own_at (pw_own_below HO.out h) HYY.out, own_at (pw_own_below HO.out h) HZZ.out, Go.Lib.hid h⟩)
    clear ho5 hb5 hX HSRT HRr
    have z5 := (HKE.out _ HB5.out).2.1
    have HWP := Go.Lib.hid (show walkP (nxS N I) 0 (dS way) = if hasB X z then some (dS way) else none from by
      unfold walkP
      have e : (nxS N I (la (dS way))).contains (hd (dS way)) = hasB X z := by
        rw [HHD.out]
        cases hb : hasB X z with
        | true =>
          have h1 := hasB_mem.1 hb
          rw [hXd.out, mem_sort] at h1
          simpa using h1
        | false =>
          simp only [List.contains_eq_mem, decide_eq_false_iff_not]
          intro hm
          rw [hasB_mem.2 (by rw [hXd.out, mem_sort]; exact hm)] at hb
          cases hb
      rw [e])
    go_wp2_with fail
    refine (contains_calls X z A5 c5 w5 (by have := hXs.out; unfold LIM; omega) hRX.out hXc).mono ?_
    rintro e w6 ⟨rfl, hd6⟩
    have HB6 := Go.Lib.hid (HB5.out.trans (hd6.below.mono HB5.out.size))
    generalize hasB X z = hb at *
    clear hd6
    cases hb with
    | true =>
      go_wp2_with fail
      go_ret
      rw [HNW.out]
      refine ⟨?_, HB6.out⟩
      rw [HWP.out]
      exact ⟨_, _, way, rfl, rfl, own_C2 (pw_own_below HO.out HB6.out), own_cap HO.out⟩
    | false =>
      go_wp2_with fail
      go_ret
      refine ⟨?_, HB6.out⟩
      rw [HWP.out]
      rfl
  | succ d ih =>
    intro way A c B w hd hne hway hown hr0 hr1
    have HIH := Go.Lib.hid ih
    clear ih
    obtain ⟨g, rfl⟩ := own_ad hown hne
    obtain ⟨j, hj⟩ : ∃ j, way.length = j + 1 := ⟨way.length - 1, by have := List.length_pos_iff.2 hne; omega⟩
    obtain ⟨y, hy⟩ : ∃ y, way[j]? = some y := ⟨_, List.getElem?_eq_getElem (by omega)⟩
    obtain ⟨z, hz⟩ : ∃ z, way[0]? = some z := ⟨_, List.getElem?_eq_getElem (by omega)⟩
    have HYY := Go.Lib.hid hy
    have HZZ := Go.Lib.hid hz
    have y0 := own_at hown hy
    have z0 := own_at hown hz
    have HLA := Go.Lib.hid (la_dS hj hy)
    have HHD := Go.Lib.hid (hd_dS hz)
    have hyN := Go.Lib.hid (hway y (List.mem_of_getElem? hy))
    have HYN := hyN
    have HW := Go.Lib.hid hway
    have HO := Go.Lib.hid hown
    have HR0 := Go.Lib.hid hr0
    have HR1 := Go.Lib.hid hr1
    have HM := Go.Lib.hid hM
    have HIX := Go.Lib.hid (fun (W : World) (h : Below w.heap.size w W) => idx_calls N y A0 c0 W (by have := hM.n16; unfold LIM; omega) (hr0.up h) hc0 hyN.out)
    have hix := Go.Lib.hid (show idxS N y.toList < I.length by rw [hM.same]; exact idx_lt hyN.out)
    have hsm := Go.Lib.hid (hM.small _ (nxB_mem hM hyN.out))
    obtain ⟨x, hx⟩ : ∃ x, x = idxS N y.toList := ⟨_, rfl⟩
    have HX := Go.Lib.hid hx
    rw [← hx] at HIX hix
    obtain ⟨nw, hnw⟩ : ∃ nw, nw = way.length := ⟨_, rfl⟩
    rw [← hnw] at hj hd ⊢
    have HNW := Go.Lib.hid hnw
    have hx1 : (x : Int) < (I.length : Int) := by have := hix.out; omega
    have hx0 : (0 : Int) ≤ (x : Int) := by omega
    have hw1 : IntKind.i64.wrap ((nw : Int) - 1) = (j : Int) := by rw [IntKind.wrap_i64]; omega
    have hj0 : (0 : Int) ≤ (j : Int) := by omega
    have hj1 : (j : Int) < (nw : Int) := by omega
    have hne1 : ((nw : Int) == (size : Int)) = false := beq_eq_false_iff_ne.mpr (by omega)
    have HJ := Go.Lib.hid hj
    have HD := Go.Lib.hid hd
    clear hx hy hz hyN hway hown hr0 hr1 hM hne hnw hj hd
    go_enter Try.func28, Try.ntmps28
    go_wp2_with fail
    refine (HIX.out w (Below.refl _ _)).mono ?_
    rintro e w3 ⟨rfl, hd3⟩
    have hb3 := Go.Lib.hid hd3.below
    obtain ⟨adI, Ar, cr, rfl, q0, hcr, hRr⟩ := at_L1 (Kd.C_below HR1.out hb3.out) (x : Int) hx0 hx1
    rw [Int.toNat_natCast] at q0
    have HRr := Go.Lib.hid (show RdS w3 Ar (rd_L1 I (x : Int)) from hRr)
    have hsm2 := Go.Lib.hid (show (rd_L1 I (x : Int)).length ≤ 1048576 by have h := hsm.out; unfold nxB at h; rw [← HX.out] at h; exact h)
    have hnx := Go.Lib.hid (show nxS N I y.toList = dS (rd_L1 I (x : Int)) by rw [HX.out]; rfl)
    generalize rd_L1 I (x : Int) = rw_ at *
    clear hd3 hRr y0
    go_wp2_with fail
    refine (vals_calls Ar rw_.length cr w3).mono ?_
    rintro e w4 ⟨rfl, rfl⟩
    have hb4 := Go.Lib.hid (hb3.out.trans (below_alloc (Below.refl w3.heap.size w3) (.cells #[.slice Ar rw_.length cr] 22) |>.mono hb3.out.size))
    have hR4 := Go.Lib.hid (HRr.out.up (below_alloc (Below.refl w3.heap.size w3) (.cells #[.slice Ar rw_.length cr] 22)))
    have HSRT := Go.Lib.hid (sorted_calls w3.heap.size cr Ar rw_ _ (by have := hsm2.out; omega) hR4.out ((blk_cell (blk_new w3 _) 0).trans rfl))
    generalize w3.alloc (.cells #[.slice Ar rw_.length cr] 22) = w4 at *
    clear q0 hR4
    go_wp2_with fail
    refine HSRT.out.mono ?_
    rintro e w5 ⟨⟨A5, c5, rfl, ho5⟩, hb5⟩
    obtain ⟨X, hX⟩ : ∃ X, X = bsC ((dS rw_).mergeSort leS) := ⟨_, rfl⟩
    have hXl := Go.Lib.hid (show (dS rw_).length = X.length by rw [hX, bsC_length]; simp)
    have hXd := Go.Lib.hid (show dS X = (nxS N I (la (dS way))).mergeSort leS by rw [hX, dS_bsC, HLA.out, hnx.out])
    rw [bsC_enc, ← hX, hXl.out] at ho5
    rw [hXl.out]
    have hRX := Go.Lib.hid (own_C2 ho5)
    have hXc := own_cap ho5
    have hXs := Go.Lib.hid (show X.length ≤ 1048576 by rw [← hXl.out, dS_length]; exact hsm2.out)
    have hX9 : (X.length : Int) ≤ 1048576 := by have := hXs.out; omega
    have hX0 : (0 : Int) ≤ (X.length : Int) := by omega
    have HB5 := Go.Lib.hid (hb4.out.trans (hb5.mono hb4.out.size))
    have HKE := Go.Lib.hid (show ∀ w', Below w.heap.size w w' → w'.cell? ⟨g, j, none⟩ = some (.string y) ∧ w'.cell? ⟨g, 0, none⟩ = some (.string z) ∧ Hid (Below w.heap.size w w') from fun w' h => ⟨own_at (pw_own_below HO.out h) HYY.out, own_at (pw_own_below HO.out h) HZZ.out, Go.Lib.hid h⟩)
    clear ho5 hb5 hX HSRT HRr
    obtain ⟨F, hF⟩ : ∃ F : Str → Option (List Str), F = fun m => if m ≤ hd (dS way) ∨ m ∈ dS way then none else walkP (nxS N I) d (dS way ++ [m]) := ⟨_, rfl⟩
    have HWP := Go.Lib.hid (show walkP (nxS N I) (d + 1) (dS way) = if reachP (nxS N I) z.toList (d + 2) [y.toList] then firstS F (dS X) else none from by
      rw [walkP, HHD.out, HLA.out, hF, HHD.out, hXd.out, HLA.out])
    have HF := Go.Lib.hid hF
    obtain ⟨d1, hd1⟩ : ∃ d1, d1 = d + 1 := ⟨_, rfl⟩
    obtain ⟨d2, hd2⟩ : ∃ d2, d2 = d + 2 := ⟨_, rfl⟩
    have hw2 : IntKind.i64.wrap ((size : Int) - (nw : Int)) = (d1 : Int) := by have := HD.out; rw [IntKind.wrap_i64]; omega
    have hw3 : IntKind.i64.wrap ((d1 : Int) + 1) = (d2 : Int) := by have := HD.out; rw [IntKind.wrap_i64]; omega
    have hw4 : wrap64 ((d1 : Int) + 1) = (d2 : Int) := by have := HD.out; unfold wrap64; omega
    have HK5 := Go.Lib.hid (show ∀ w', Below w5.heap.size w5 w' → w'.cell? ⟨g, j, none⟩ = some (.string y) ∧ w'.cell? ⟨g, 0, none⟩ = some (.string z) ∧ Hid (Below w5.heap.size w5 w') from fun w' h => ⟨(HKE.out w' (HB5.out.trans (h.mono HB5.out.size))).1, (HKE.out w' (HB5.out.trans (h.mono HB5.out.size))).2.1, Go.Lib.hid h⟩)
    have HRE := Go.Lib.hid (show ∀ W, Below w5.heap.size w5 W → Calls Try.prog 45 #[.slice A0 N.length c0, .slice (some adI) I.length c1, .string y, .string z, .int .i64 (d2 : Int)] W fun e w' => e = .returned (.bool (reachP (nxS N I) z.toList (d + 2) [y.toList])) ∧ Below W.heap.size W w' from fun W h0 => by
      have h := HB5.out.trans (h0.mono HB5.out.size)
      rw [hd2]
      exact reach_calls N I HM.out A0 (some adI) c0 c1 y z (d + 2) W (HR0.out.up h) hc0 (Kd.C_below HR1.out h) hc1 HYN.out (small_d HD.out hsz))
    generalize reachP (nxS N I) z.toList (d + 2) [y.toList] = rb at *
    have hnw0 : 0 < nw := by have := HJ.out; omega
    have hnw1 : (0 : Int) < (nw : Int) := by omega
    have hnw2 : decide (0 < nw) = true := decide_eq_true hnw0
    clear hd1 hd2 hF z0
    go_wp2_with fail
    go_region_held3 (fun w' => w'.cell? ⟨g, j, none⟩ = some (.string y) ∧ w'.cell? ⟨g, 0, none⟩ = some (.string z) ∧ Hid (Below w5.heap.size w5 w')) (first | exact HK5.out _ hNew.out | exact HK5.out _ (below_drew1 (Below.refl _ _))) (first
      | (go_at_call 45; refine (HRE.out _ (‹_ ∧ _ ∧ Hid (Below w5.heap.size w5 _)›).2.2.out).mono ?_; rintro e wn ⟨rfl, hbn⟩; have hNew := Go.Lib.hid (Below.trans (‹_ ∧ _ ∧ Hid (Below w5.heap.size w5 _)›).2.2.out (Below.mono hbn (‹_ ∧ _ ∧ Hid (Below w5.heap.size w5 _)›).2.2.out.size)); clear hbn))
    rename_i hHeldX
    clear hHeldX
    cases rb with
    | false =>
      go_wp2_with fail
      go_ret
      refine ⟨?_, HB5.out.trans (hNew.out.mono HB5.out.size)⟩
      rw [HWP.out]
      rfl
    | true =>
      have HWQ : Hid (walkP (nxS N I) (d + 1) (dS way) = firstS F (dS X)) := Go.Lib.hid (by rw [HWP.out, if_pos rfl])
      clear HWP
      have N22 := n22
      clear hw2 hw3 hw4 HRE
      go_wp2_with fail
      go_loopg [56] X.length (fun k v56 wr => ∃ i : Nat, Hid (i + k = X.length) ∧ v56 = .int .i64 i ∧ Hid (firstS F (dS X) = firstS F ((dS X).drop i)) ∧ Hid (Below w5.heap.size w5 wr))
      case atStart => exact ⟨0, Go.Lib.hid (by omega), rfl, Go.Lib.hid (by simp), hNew⟩
      case round =>
        clear hNew
        obtain ⟨i, hi, rfl, hFS, hB6⟩ := hrel
        have hBw := Go.Lib.hid (HB5.out.trans (hB6.out.mono HB5.out.size))
        by_cases hlt : i < X.length
        · have hlt' : (i : Int) < (X.length : Int) := by omega
          have hi0 : (0 : Int) ≤ (i : Int) := by omega
          obtain ⟨m, hm⟩ : ∃ m, X[i]? = some m := ⟨_, List.getElem?_eq_getElem hlt⟩
          obtain ⟨adX, rfl, m0⟩ := (hRX.out.up hB6.out).at_ hm
          have hmN := Go.Lib.hid (show hasB N m = true from by
            have h1 : m.toList ∈ dS X := List.mem_map.2 ⟨m, List.mem_of_getElem? hm, rfl⟩
            rw [hXd.out, mem_sort, HLA.out] at h1
            obtain ⟨q, hq, hqe⟩ := List.mem_map.1 h1
            have h3 := HM.out.all _ (nxB_mem HM.out HYN.out) q hq
            rw [hasB_mem] at h3 ⊢
            rw [← hqe]; exact h3)
          have hdr := Go.Lib.hid (show (dS X).drop i = m.toList :: (dS X).drop (i + 1) from by
            have h1 : (dS X)[i]? = some m.toList := by unfold dS; rw [List.getElem?_map, hm]; rfl
            obtain ⟨hl2, h2⟩ := List.getElem?_eq_some_iff.1 h1
            rw [List.drop_eq_getElem_cons hl2, h2])
          have hFS1 := Go.Lib.hid (show firstS F (dS X) = match F m.toList with | some l => some l | none => firstS F ((dS X).drop (i + 1)) by rw [hFS.out, hdr.out]; rfl)
          have hz6 := (HK5.out _ hB6.out).2.1
          have HLT := Go.Lib.hid hlt
          have hle := Go.Lib.hid (show Op.bytesLess z.toList m.toList = decide (z.toList < m.toList) from Go.Proofs.bytesLess_eq _ _)
          clear hlt hm hFS
          by_cases hzm : z.toList < m.toList
          · have hb1 : Op.bytesLess z.toList m.toList = true := by rw [hle.out]; exact decide_eq_true hzm
            have HCN := Go.Lib.hid (contains_calls way m (some ⟨g, 0, none⟩) c wr (by have h1 := HNW.out; have h2 := HD.out; unfold LIM; omega) (own_C2 (pw_own_below HO.out hBw.out)) (own_cap HO.out))
            rw [← HNW.out] at HCN
            have HFM := Go.Lib.hid (show F m.toList = if hasB way m then none else walkP (nxS N I) d (dS way ++ [m.toList]) from by
              rw [HF.out, HHD.out]
              dsimp only
              by_cases hq : hasB way m = true
              · rw [if_pos (.inr (hasB_mem.1 hq)), if_pos hq]
              · rw [if_neg, if_neg hq]
                rintro (h | h)
                · exact absurd hzm (List.not_lt.2 h)
                · exact hq (hasB_mem.2 h))
            generalize hasB way m = hq at *
            clear hzm
            go_wp2_with fail
            refine HCN.out.mono ?_
            rintro e w7 ⟨rfl, hd7⟩
            have hB7 := Go.Lib.hid (hB6.out.trans (hd7.below.mono hB6.out.size))
            clear hd7 HCN m0 hz6
            cases hq with
            | true =>
              have hn := Go.Lib.hid (show firstS F (dS X) = firstS F ((dS X).drop (i + 1)) by rw [hFS1.out, HFM.out]; rfl)
              go_wp2_with fail
              go_roundg (gk - 1)
              case measure => have := hi.out; have := HLT.out; omega
              case rel => exact ⟨i + 1, Go.Lib.hid (by have := hi.out; have := HLT.out; omega), by go_num, hn, hB7⟩
            | false =>
              have hB7w := Go.Lib.hid (HB5.out.trans (hB7.out.mono HB5.out.size))
              have HCL := Go.Lib.hid (clone_calls (W := w7) (pw_own_below HO.out hB7w.out) (by have h1 := HNW.out; have h2 := HD.out; omega))
              rw [← HNW.out] at HCL
              go_wp2_with fail
              refine HCL.out.mono ?_
              rintro e w8 ⟨⟨A8, c8, rfl, ho8⟩, hb8⟩
              obtain ⟨way2, hw2⟩ : ∃ way2, way2 = way ++ [m] := ⟨_, rfl⟩
              have HW2 := Go.Lib.hid hw2
              have HO8 := Go.Lib.hid (show w8.ownsRow w7.heap.size 9 1 (.slice A8 nw c8) way.length (encs Value.string way) from by have h := ho8; rw [HNW.out] at h ⊢; exact h)
              have HB8 := Go.Lib.hid hb8
              clear ho8 hb8 hw2 HCL
              go_wp2_with ((with_reducible refine gate_builtin (b := .append) (xs := #[.tmp 73, .tmp 75]) rfl ?_); at_builtin; refine print_append_of (w0 := w7) Value.string w7.heap.size rfl (.tmp 73) (.tmp 75) 22 9 (.string ⟨#[]⟩) 16 rfl Try.underlying22 info9 rfl (by decide) (.slice A8 nw c8) way m rfl (by first | rfl | (go_simp; done) | (go_simp; rfl)) rfl ?q1 ?q2 ?q3 ?q4 ?_; (case q1 => exact HO8.out); (case q2 => exact HB8.out); (case q3 => exact HB8.out.size); (case q4 => have q1_ := HNW.out; have q2_ := HD.out; omega); intro v1 w9 ho9 hb9 hg9 hat9; rw [← HW2.out] at ho9; obtain ⟨A9, c9, rfl⟩ := own_slice ho9; have HO9 := Go.Lib.hid ho9; have HB9 := Go.Lib.hid hb9; clear ho9 hb9 hg9 hat9)
              have hB9w := Go.Lib.hid (hB7w.out.trans (HB9.out.mono hB7w.out.size))
              have HL2 := Go.Lib.hid (show way2.length = nw + 1 by rw [HW2.out, HNW.out]; simp)
              have HDS2 := Go.Lib.hid (show dS way2 = dS way ++ [m.toList] by rw [HW2.out, dS_app]; rfl)
              have HR := Go.Lib.hid (HIH.out way2 A9 c9 w7.heap.size w9 (by have h1 := HL2.out; have h2 := HD.out; omega) (fun e => by have h1 := HL2.out; rw [e] at h1; simp at h1) (fun q hq => by
                rw [HW2.out] at hq
                rcases List.mem_append.1 hq with h | h
                · exact HW.out q h
                · rw [List.mem_singleton.1 h]; exact hmN.out) HO9.out (HR0.out.up hB9w.out) (Kd.C_below HR1.out hB9w.out))
              refine HR.out.mono ?_
              rintro e w10 ⟨hres, hb10⟩
              rw [HDS2.out] at hres
              have HFM2 := Go.Lib.hid (show F m.toList = walkP (nxS N I) d (dS way ++ [m.toList]) by rw [HFM.out]; rfl)
              have hB10 := Go.Lib.hid (hB7.out.trans ((HB9.out.trans (hb10.mono HB9.out.size)).mono hB7.out.size))
              cases hwp : walkP (nxS N I) d (dS way ++ [m.toList]) with
              | none =>
                rw [hwp] at hres
                have he : e = .returned (.slice none 0 0) := hres
                subst he
                have hn := Go.Lib.hid (show firstS F (dS X) = firstS F ((dS X).drop (i + 1)) by rw [hFS1.out, HFM2.out, hwp])
                clear hwp hres hb10 HR
                go_wp2_with fail
                go_roundg (gk - 1)
                case measure => have := hi.out; have := HLT.out; omega
                case rel => exact ⟨i + 1, Go.Lib.hid (by have := hi.out; have := HLT.out; omega), by go_num, hn, hB10⟩
              | some l =>
                rw [hwp] at hres
                obtain ⟨adL, cL, L, rfl, hL1, hL2, hL3⟩ := hres
                have hn := Go.Lib.hid (show walkP (nxS N I) (d + 1) (dS way) = some l by rw [HWQ.out, hFS1.out, HFM2.out, hwp])
                have HLL := Go.Lib.hid (show dS L = l ∧ RdS w10 (some adL) L ∧ L.length ≤ cL from ⟨hL1, hL2, hL3⟩)
                clear hwp hb10 HR hL1 hL2 hL3
                go_wp2_with fail
                go_ret
                refine ⟨?_, HB5.out.trans (hB10.out.mono HB5.out.size)⟩
                rw [hn.out]
                exact ⟨adL, cL, L, rfl, HLL.out⟩
          · have hb1 : Op.bytesLess z.toList m.toList = false := by rw [hle.out]; exact decide_eq_false hzm
            have hn := Go.Lib.hid (show firstS F (dS X) = firstS F ((dS X).drop (i + 1)) by
              rw [hFS1.out, HF.out, HHD.out]
              dsimp only
              rw [if_pos (.inl (List.not_lt.1 hzm))])
            clear hzm
            go_wp2_with fail
            go_roundg (gk - 1)
            case measure => have := hi.out; have := HLT.out; omega
            case rel => exact ⟨i + 1, Go.Lib.hid (by have := hi.out; have := HLT.out; omega), by go_num, hn, hB6⟩
        · have hjd : decide ((i : Int) < (X.length : Int)) = false := decide_eq_false (by omega)
          have hjd2 : decide (i < X.length) = false := decide_eq_false hlt
          have hjn : ¬ (i : Int) < (X.length : Int) := by omega
          have hn := Go.Lib.hid (show walkP (nxS N I) (d + 1) (dS way) = none by
            rw [HWQ.out, hFS.out, List.drop_eq_nil_of_le (by rw [dS_length]; omega)]; rfl)
          clear hlt
          go_wp2_with fail
          go_ret
          refine ⟨?_, hBw.out⟩
          rw [hn.out]
          rfl
end Go.Proofs.Ytdobkkoonamocaa.Mo
