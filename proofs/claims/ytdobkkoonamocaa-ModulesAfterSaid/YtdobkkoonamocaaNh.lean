import Derived.Test.YtdobkkoonamocaaNf
namespace Go.Proofs.Ytdobkkoonamocaa.Mo
open Go.RowKit Go.Proofs.Ytdobkkoonamocaa.PModulesOrdered Go.Proofs.YtdobkkoonamocaaW.PrintWords Go.Proofs.YtdobkkoonamocaaW.PrintLast Go.Proofs.YtdobkkoonamocaaW.PrintMore
set_option linter.unusedVariables false
/-- ModulesAfter with a changed name that is not a module's. -/
theorem lawA_name (N C : List ByteArray) (I : List (List ByteArray)) (A0 A1 A2 : Option Addr) (c0 c1 c2 : Nat) (w : World)
  (hN : N.length < LIM) (hC : C.length < 8796093021953) (hr0 : Kd.C Kd.string w A0 N.length N) (hc0 : N.length ≤ c0) (hr2 : Kd.C Kd.string w A2 C.length C) (hx : ∃ s ∈ C, hasB N s = false)
  (h1 : Hid (∀ W, Below w.heap.size w W → Calls Try.prog 11 #[.slice A0 N.length c0, .slice A1 I.length c1, .slice A2 C.length c2] W fun e w' => e = .returned (.tuple #[.slice none 0 0, .int .i64 6]) ∧ Below W.heap.size W w'))
  (h2 : Hid (∀ W, Below w.heap.size w W → Calls Try.prog 8 #[.slice A0 N.length c0, .slice A1 I.length c1] W fun e w' => e = .returned (.int .i64 0) ∧ Below W.heap.size W w')) :
    Calls Try.prog 4 #[.slice A0 N.length c0, .slice A1 I.length c1, .slice A2 C.length c2] w fun e w' => e = .returned (.bool true) ∧ Below w.heap.size w w' := by
  have HR0 := Go.Lib.hid hr0
  have HR2 := Go.Lib.hid hr2
  have HX := Go.Lib.hid hx
  have HN := Go.Lib.hid hN
  have hC1 : (C.length : Int) < 8796093021953 := by omega
  clear hr0 hr2 hx hN
  go_enter Try.func4, Try.ntmps4
  go_wp2_with fail
  refine (first_after w).mono ?_
  rintro e w1 ⟨⟨A, c, rfl⟩, hb1⟩
  have HB1 := Go.Lib.hid hb1
  clear hb1
  go_wp2_with fail
  refine (h1.out w1 HB1.out).mono ?_
  rintro e w3 ⟨rfl, hb3⟩
  have HB3 := Go.Lib.hid (HB1.out.trans (hb3.mono HB1.out.size))
  clear hb3
  go_wp2_with fail
  refine (h2.out w3 HB3.out).mono ?_
  rintro e w4 ⟨rfl, hb4⟩
  have HB4 := Go.Lib.hid (HB3.out.trans (hb4.mono HB3.out.size))
  clear hb4
  go_wp2_with fail
  go_loopg [56] C.length (fun k v56 wr => ∃ i : Nat, Hid (i + k = C.length) ∧ v56 = .int .i64 i ∧ Hid (∀ a, a < i → hasB N (sx C (a : Int)) = true) ∧ Hid (Below w.heap.size w wr))
  case atStart => exact ⟨0, Go.Lib.hid (by omega), rfl, Go.Lib.hid (fun a h => by omega), HB4⟩
  case round =>
    obtain ⟨i, hi, rfl, hall, hb⟩ := hrel
    by_cases hlt : i < C.length
    · have hlt' : (i : Int) < (C.length : Int) := by omega
      obtain ⟨ad, rfl, x0⟩ := at_S (Kd.C_below HR2.out hb.out) hlt
      have hcon := Go.Lib.hid (contains_calls N (sx C (i : Int)) A0 c0 wr HN.out (Kd.C_below HR0.out hb.out) hc0)
      have hnx := Go.Lib.hid (show hasB N (sx C (i : Int)) = true → ∀ a, a < i + 1 → hasB N (sx C (a : Int)) = true from fun h a ha => by
        rcases Nat.lt_or_eq_of_le (Nat.le_of_lt_succ ha) with h4 | rfl
        · exact hall.out a h4
        · exact h)
      generalize sx C (i : Int) = s at *
      generalize hasB N s = b at hcon hnx
      have HLT := Go.Lib.hid hlt
      clear hlt
      go_wp2_with fail
      refine hcon.out.mono ?_
      rintro e w5 ⟨rfl, hd5⟩
      have HB5 := Go.Lib.hid (hb.out.trans (hd5.below.mono hb.out.size))
      clear hd5 hcon x0
      cases b
      · clear hnx
        go_wp2_with fail
        go_ret
        exact ⟨rfl, HB5.out⟩
      · have hn' := Go.Lib.hid (hnx.out rfl)
        clear hnx
        go_wp2_with fail
        go_roundg (gk - 1)
        case measure => have := hi.out; have := HLT.out; omega
        case rel => exact ⟨i + 1, Go.Lib.hid (by have := hi.out; have := HLT.out; omega), by go_num, hn', HB5⟩
    · exfalso
      obtain ⟨s, hs, hf⟩ := HX.out
      obtain ⟨j, hj, rfl⟩ := List.mem_iff_getElem.1 hs
      have h := hall.out j (by omega)
      rw [sx_get hj, hf] at h
      cases h
end Go.Proofs.Ytdobkkoonamocaa.Mo
