/- The law of ModulesCycles walked. -/
import Derived.Test.YtdobkkoonamocaaCf
namespace Go.Proofs.Ytdobkkoonamocaa.Mo
open Go.RowKit Go.Lib Go.Proofs.Ytdobkkoonamocaa.PModulesOrdered Go.Proofs.Ytdobkkoonamocaa.Cx Go.Proofs.YtdobkkoonamocaaW.PrintWords Go.Proofs.YtdobkkoonamocaaW.PrintLast Go.Proofs.YtdobkkoonamocaaW.PrintMore
set_option linter.unusedVariables false
set_option linter.unusedSimpArgs false
/-- slices.Equal at lists of the same names. -/
theorem eqS_from (a b : List ByteArray) (he : dS a = dS b) (hs : a.length < LIM) : ∀ d i, i + d = a.length → slices_Equal_string_string.l0 (d + 1) a b (a.length : Int) (i : Int) = some true := by
  unfold LIM at hs
  have hl : a.length = b.length := by have := congrArg List.length he; rwa [dS_length, dS_length] at this
  intro d
  induction d with
  | zero =>
    intro i hi
    rw [slices_Equal_string_string.l0, if_neg (by omega)]
  | succ d ih =>
    intro i hi
    rw [slices_Equal_string_string.l0, if_pos (by omega), if_pos (by omega), if_pos (by omega), if_pos (by omega), w64i i (by omega), ih (i + 1) (by omega)]
    refine if_pos ?_
    have h1 := sx_get (l := a) (i := i) (by omega)
    have h2 := sx_get (l := b) (i := i) (by omega)
    show (sx a (i : Int)).toList = (sx b (i : Int)).toList
    rw [h1, h2]
    have h3 : (dS a)[i]? = (dS b)[i]? := by rw [he]
    unfold dS at h3
    rw [List.getElem?_map, List.getElem?_map, List.getElem?_eq_getElem (by omega), List.getElem?_eq_getElem (by omega)] at h3
    simpa using h3
theorem eqS_calls (a b : List ByteArray) (he : dS a = dS b) (hs : a.length < LIM) (A B : Option Addr) (c d : Nat) (w : World) (hA : RdS w A a) (hc : a.length ≤ c) (hB : RdS w B b) (hd : b.length ≤ d) :
    Calls Try.prog 15 #[.slice A a.length c, .slice B b.length d] w fun e w' => e = .returned (.bool true) ∧ Below w.heap.size w w' :=
  (slices_Equal_string_string.calls (a.length + 1) A c a B d b true w hA hc hB hd (by
    unfold slices_Equal_string_string.f
    have hl : a.length = b.length := by have := congrArg List.length he; rwa [dS_length, dS_length] at this
    rw [if_pos (by omega)]
    exact eqS_from a b he hs a.length 0 (by omega))).mono fun e w' h => ⟨h.1, h.2.below⟩
abbrev NA : List ByteArray := [⟨#[65]⟩]
abbrev IA : List (List ByteArray) := [[⟨#[65]⟩]]
abbrev wC (w : World) : World := ((w.alloc (.cells #[.string ⟨#[65]⟩] 9)).alloc (.cells #[.string ⟨#[65]⟩] 9)).alloc (.cells #[.slice (some ⟨w.heap.size + 1, 0, none⟩) 1 1] 22)
theorem errC : mErr NA IA = 0 := by kernel_rfl
theorem cycC : cycleP (nxS NA IA) (dS NA) 1 0 = some [[65]] := by kernel_rfl
theorem cyc_args (w : World) : RdS (wC w) (some ⟨w.heap.size, 0, none⟩) NA ∧ Kd.C (Kd.slice 9 Kd.string) (wC w) (some ⟨w.heap.size + 1 + 1, 0, none⟩) 1 IA ∧ Below w.heap.size w (wC w) := by
  have h1 := blk_alloc (blk_alloc (blk_new w (.cells #[.string ⟨#[65]⟩] 9)) (.cells #[.string ⟨#[65]⟩] 9)) (.cells #[.slice (some ⟨w.heap.size + 1, 0, none⟩) 1 1] 22)
  have h2 := blk_alloc (blk_new (w.alloc (.cells #[.string ⟨#[65]⟩] 9)) (.cells #[.string ⟨#[65]⟩] 9)) (.cells #[.slice (some ⟨w.heap.size + 1, 0, none⟩) 1 1] 22)
  have h3 := blk_new ((w.alloc (.cells #[.string ⟨#[65]⟩] 9)).alloc (.cells #[.string ⟨#[65]⟩] 9)) (.cells #[.slice (some ⟨w.heap.size + 1, 0, none⟩) 1 1] 22)
  have s1 : (w.alloc (.cells #[.string ⟨#[65]⟩] 9)).heap.size = w.heap.size + 1 := by simp
  have s2 : ((w.alloc (.cells #[.string ⟨#[65]⟩] 9)).alloc (.cells #[.string ⟨#[65]⟩] 9)).heap.size = w.heap.size + 1 + 1 := by simp
  rw [s1] at h2
  rw [s2] at h3
  refine ⟨lit_S (l := [⟨#[65]⟩]) h1 rfl (by decide), ?_, below_alloc (below_alloc (below_alloc (Below.refl _ _) _) _) _⟩
  have k2 := lit_S (l := [⟨#[65]⟩]) h2 rfl (by decide)
  refine ⟨by decide, by decide, fun _ => ⟨_, rfl, fun j p hj => ?_⟩⟩
  match j, hj with
  | 0, hj =>
    obtain rfl : p = [⟨#[65]⟩] := by simpa using hj.symm
    refine ⟨[.slice (some ⟨w.heap.size + 1, 0, none⟩) 1 1], rfl, ⟨_, _, rfl, Nat.le_refl _, k2⟩, fun i u hu => ?_⟩
    obtain rfl : i = 0 := by have := (List.getElem?_eq_some_iff.1 hu).1; simp at this; omega
    rw [List.getElem?_cons_zero] at hu
    rw [add_plain, blk_cell h3]
    simpa using hu
/-- The first call. -/
theorem first_cycle (w : World) : Calls Try.prog 16 #[.slice (some ⟨w.heap.size, 0, none⟩) 1 1, .slice (some ⟨w.heap.size + 1 + 1, 0, none⟩) 1 1] (wC w) fun e w' => (∃ A c, e = .returned (.tuple #[.slice A 1 c, .int .i64 0])) ∧ Below w.heap.size w w' := by
  obtain ⟨a1, a2, hb⟩ := cyc_args w
  generalize wC w = W at *
  refine (cycle_ok NA IA _ _ 1 1 W (by simp [IA]) a1 (Nat.le_refl _) a2 (Nat.le_refl _) errC).mono ?_
  rintro e w' ⟨h, hb'⟩
  refine ⟨?_, hb.trans (hb'.mono hb.size)⟩
  have h2 : ResC (cycleP (nxS NA IA) (dS NA) 1 0) e w' := h
  rw [cycC] at h2
  obtain ⟨ad, c', L, rfl, hL, _⟩ := h2
  have hl : L.length = 1 := by have := congrArg List.length hL; rwa [dS_length] at this
  rw [hl]
  exact ⟨_, _, rfl⟩
set_option maxHeartbeats 2000000 in
set_option maxRecDepth 100000 in
theorem lawC_calls (N : List ByteArray) (I : List (List ByteArray)) (A0 A1 : Option Addr) (c0 c1 : Nat) (w : World) (hNl : N.length < LIM) (hIl : I.length < LIM) (hs : ∀ l ∈ I, l.length ≤ 1048576) (hr0 : RdS w A0 N) (hc0 : N.length ≤ c0) (hr1 : Kd.C (Kd.slice 9 Kd.string) w A1 I.length I) (hc1 : I.length ≤ c1) :
    Calls Try.prog 5 #[.slice A0 N.length c0, .slice A1 I.length c1] w fun e w' => e = .returned (.bool true) ∧ Below w.heap.size w w' := by
  have HR0 := Go.Lib.hid hr0
  have HR1 := Go.Lib.hid hr1
  have HS := Go.Lib.hid hs
  have HNL := Go.Lib.hid hNl
  have HIL := Go.Lib.hid hIl
  have HFC := Go.Lib.hid (first_cycle w)
  have HLL := Go.Lib.hid (show ∀ l ∈ I, l.length < LIM from fun l hl => by have := hs l hl; unfold LIM; omega)
  have Q22 := q22
  clear hr0 hr1 hs hNl hIl
  by_cases h6 : 6 < N.length
  · have d1 : decide ((6 : Int) < (N.length : Int)) = true := decide_eq_true (by omega)
    have d2 : decide (6 < N.length) = true := decide_eq_true h6
    clear h6
    go_enter Try.func5, Try.ntmps5
    go_wp2_with fail
    refine HFC.out.mono ?_
    rintro e w1 ⟨⟨A, c, rfl⟩, hb1⟩
    have HB1 := Go.Lib.hid hb1
    clear hb1 HFC
    go_wp2_with fail
    go_ret
    exact ⟨rfl, HB1.out⟩
  · have H6 := Go.Lib.hid (show N.length ≤ 6 by omega)
    have d1 : decide ((6 : Int) < (N.length : Int)) = false := decide_eq_false (by omega)
    have d2 : decide (6 < N.length) = false := decide_eq_false h6
    clear h6
    by_cases he : mErr N I = 0
    · have HE := Go.Lib.hid he
      have HCY := Go.Lib.hid (fun (W : World) (h : Below w.heap.size w W) => cycle_ok N I A0 A1 c0 c1 W HS.out (HR0.out.up h) hc0 (Kd.C_below HR1.out h) hc1 he)
      have HBE := Go.Lib.hid (fun (W : World) (h : Below w.heap.size w W) => best_calls N I (few_of he H6.out HS.out) A0 A1 c0 c1 W (HR0.out.up h) hc0 (Kd.C_below HR1.out h) hc1)
      have HER := Go.Lib.hid (fun (W : World) (h : Below w.heap.size w W) => error_calls N I A0 A1 c0 c1 W HNL.out HIL.out HLL.out (HR0.out.up h) hc0 (Kd.C_below HR1.out h) hc1)
      rw [he] at HER
      have hsame := Go.Lib.hid (cycle_same (nxS N I) (dS N) (nx_in (mods_of he HS.out)) N.length)
      rw [hsame.out] at HBE
      generalize cycleP (nxS N I) (dS N) N.length 0 = o at *
      clear he hsame
      cases o with
      | none =>
        go_enter Try.func5, Try.ntmps5
        go_wp2_with fail
        refine HFC.out.mono ?_
        rintro e w1 ⟨⟨A, c, rfl⟩, hb1⟩
        have HB1 := Go.Lib.hid hb1
        clear hb1 HFC
        go_wp2_with fail
        refine (HCY.out w1 HB1.out).mono ?_
        rintro e w2 ⟨hres, hb2⟩
        have hres2 : e = .returned (.tuple #[.slice none 0 0, .int .i64 12]) := hres
        subst hres2
        have HB2 := Go.Lib.hid (HB1.out.trans (hb2.mono HB1.out.size))
        clear hb2 hres
        go_wp2_with fail
        refine (HER.out w2 HB2.out).mono ?_
        rintro e w3 ⟨rfl, hb3⟩
        have HB3 := Go.Lib.hid (HB2.out.trans (hb3.mono HB2.out.size))
        clear hb3
        go_wp2_with fail
        refine (HBE.out w3 HB3.out).mono ?_
        rintro e w4 ⟨hres, hb4⟩
        have hres2 : e = .returned (.slice none 0 0) := hres
        subst hres2
        have HB4 := Go.Lib.hid (HB3.out.trans (hb4.mono HB3.out.size))
        clear hb4 hres
        go_wp2_with fail
        refine (eqS_calls [] [] rfl (by decide) none none 0 0 w4 (Kd.C_nil _ _) (Nat.le_refl _) (Kd.C_nil _ _) (Nat.le_refl _)).mono ?_
        rintro e w5 ⟨rfl, hb5⟩
        have HB5 := Go.Lib.hid (HB4.out.trans (hb5.mono HB4.out.size))
        clear hb5
        go_wp2_with fail
        go_ret
        exact ⟨rfl, HB5.out⟩
      | some l =>
        go_enter Try.func5, Try.ntmps5
        go_wp2_with fail
        refine HFC.out.mono ?_
        rintro e w1 ⟨⟨A, c, rfl⟩, hb1⟩
        have HB1 := Go.Lib.hid hb1
        clear hb1 HFC
        go_wp2_with fail
        refine (HCY.out w1 HB1.out).mono ?_
        rintro e w2 ⟨⟨ad, c2, L, rfl, hL, hRL, hcL⟩, hb2⟩
        have HL := Go.Lib.hid hL
        have HRL := Go.Lib.hid hRL
        have HB2 := Go.Lib.hid (HB1.out.trans (hb2.mono HB1.out.size))
        clear hb2 hL hRL
        go_wp2_with fail
        refine (HER.out w2 HB2.out).mono ?_
        rintro e w3 ⟨rfl, hb3⟩
        have HB3 := Go.Lib.hid (HB2.out.trans (hb3.mono HB2.out.size))
        have HRL := Go.Lib.hid (HRL.out.up hb3)
        clear hb3
        go_wp2_with fail
        refine (HBE.out w3 HB3.out).mono ?_
        rintro e w4 ⟨⟨ad2, c3, L2, rfl, hL2, hRL2, hcL2⟩, hb4⟩
        have HL2 := Go.Lib.hid hL2
        have HRL2 := Go.Lib.hid hRL2
        have HB4 := Go.Lib.hid (HB3.out.trans (hb4.mono HB3.out.size))
        have HRL := Go.Lib.hid (HRL.out.up hb4)
        clear hb4 hL2 hRL2
        have HEQ := Go.Lib.hid (eqS_calls L L2 (by rw [HL.out, HL2.out]) (by have := HRL.out.2.1; unfold LIM; omega) (some ad) (some ad2) c2 c3 w4 HRL.out hcL HRL2.out hcL2)
        go_wp2_with fail
        refine HEQ.out.mono ?_
        rintro e w5 ⟨rfl, hb5⟩
        have HB5 := Go.Lib.hid (HB4.out.trans (hb5.mono HB4.out.size))
        clear hb5
        go_wp2_with fail
        go_ret
        exact ⟨rfl, HB5.out⟩
    · have HCY := Go.Lib.hid (fun (W : World) (h : Below w.heap.size w W) => cycle_err N I A0 A1 c0 c1 W HLL.out (HR0.out.up h) hc0 (Kd.C_below HR1.out h) hc1 he)
      have HER := Go.Lib.hid (fun (W : World) (h : Below w.heap.size w W) => error_calls N I A0 A1 c0 c1 W HNL.out HIL.out HLL.out (HR0.out.up h) hc0 (Kd.C_below HR1.out h) hc1)
      generalize mErr N I = er at *
      have h0 : (er == 0) = false := beq_eq_false_iff_ne.mpr he
      have h1 : (er == er) = true := beq_self_eq_true er
      have h2 : (er != 0) = true := bne_iff_ne.mpr he
      clear he
      go_enter Try.func5, Try.ntmps5
      go_wp2_with fail
      refine HFC.out.mono ?_
      rintro e w1 ⟨⟨A, c, rfl⟩, hb1⟩
      have HB1 := Go.Lib.hid hb1
      clear hb1 HFC
      go_wp2_with fail
      refine (HCY.out w1 HB1.out).mono ?_
      rintro e w2 ⟨rfl, hb2⟩
      have HB2 := Go.Lib.hid (HB1.out.trans (hb2.mono HB1.out.size))
      clear hb2
      go_wp2_with fail
      refine (HER.out w2 HB2.out).mono ?_
      rintro e w3 ⟨rfl, hb3⟩
      have HB3 := Go.Lib.hid (HB2.out.trans (hb3.mono HB2.out.size))
      clear hb3
      go_wp2_with fail
      refine (eqS_calls [] [] rfl (by decide) none none 0 0 w3 (Kd.C_nil _ _) (Nat.le_refl _) (Kd.C_nil _ _) (Nat.le_refl _)).mono ?_
      rintro e w5 ⟨rfl, hb5⟩
      have HB5 := Go.Lib.hid (HB3.out.trans (hb5.mono HB3.out.size))
      clear hb5
      go_wp2_with fail
      go_ret
      exact ⟨rfl, HB5.out⟩
end Go.Proofs.Ytdobkkoonamocaa.Mo
