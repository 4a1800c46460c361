import Derived.Test.YtdobkkoonamocaaNf
namespace Go.Proofs.Ytdobkkoonamocaa.Mo
open Go.RowKit Go.Proofs.Ytdobkkoonamocaa.PModulesOrdered Go.Proofs.YtdobkkoonamocaaW.PrintWords Go.Proofs.YtdobkkoonamocaaW.PrintLast Go.Proofs.YtdobkkoonamocaaW.PrintMore
set_option linter.unusedVariables false
/-- ModulesAfter with an error. -/
theorem lawA_err (N C : List ByteArray) (I : List (List ByteArray)) (A0 A1 A2 : Option Addr) (c0 c1 c2 : Nat) (w : World) (hN : N.length < LIM) (hI : I.length < LIM) (hl : ∀ l ∈ I, l.length < LIM) (hr0 : Kd.C Kd.string w A0 N.length N) (hc0 : N.length ≤ c0) (hr1 : Kd.C (Kd.slice 9 Kd.string) w A1 I.length I) (hc1 : I.length ≤ c1) (he : ¬ mErr N I = 0) :
    Calls Try.prog 4 #[.slice A0 N.length c0, .slice A1 I.length c1, .slice A2 C.length c2] w fun e w' => e = .returned (.bool true) ∧ Below w.heap.size w w' := by
  have HR0 := Go.Lib.hid hr0
  have HR1 := Go.Lib.hid hr1
  have h1 := Go.Lib.hid (fun (W : World) (hb : Below w.heap.size w W) => after_err N C I A0 A1 A2 c0 c1 c2 W hl (Kd.C_below HR0.out hb) hc0 (Kd.C_below HR1.out hb) hc1 he)
  have h2 := Go.Lib.hid (fun (W : World) (hb : Below w.heap.size w W) => error_calls N I A0 A1 c0 c1 W hN hI hl (Kd.C_below HR0.out hb) hc0 (Kd.C_below HR1.out hb) hc1)
  generalize mErr N I = er at *
  have e0 : (er == 0) = false := beq_eq_false_iff_ne.mpr he
  have e1 : (er != 0) = true := bne_iff_ne.mpr he
  have e2 : (er == er) = true := beq_self_eq_true er
  clear hr0 hr1 hl he hN hI
  go_enter Try.func4, Try.ntmps4
  go_wp2_with fail
  refine (first_after w).mono ?_
  rintro e w1 ⟨⟨A, c, rfl⟩, hb1⟩
  have HB1 := Go.Lib.hid hb1
  clear hb1
  go_wp2_with fail
  refine (h1.out w1 HB1.out).mono ?_
  rintro e w3 ⟨rfl, hb3⟩
  have HB3 := Go.Lib.hid (HB1.out.trans (hb3.mono HB1.out.size))
  clear hb3
  go_wp2_with fail
  refine (h2.out w3 HB3.out).mono ?_
  rintro e w4 ⟨rfl, hb4⟩
  have HB4 := Go.Lib.hid (HB3.out.trans (hb4.mono HB3.out.size))
  clear hb4
  go_wp2_with fail
  go_ret
  exact ⟨rfl, HB4.out⟩
end Go.Proofs.Ytdobkkoonamocaa.Mo
