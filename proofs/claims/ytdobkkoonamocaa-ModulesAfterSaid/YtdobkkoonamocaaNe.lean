import Derived.Test.YtdobkkoonamocaaNa
namespace Go.Proofs.Ytdobkkoonamocaa.Mo
open Go.RowKit Go.Proofs.Ytdobkkoonamocaa.PModulesOrdered Go.Proofs.YtdobkkoonamocaaW.PrintWords Go.Proofs.YtdobkkoonamocaaW.PrintLast Go.Proofs.YtdobkkoonamocaaW.PrintMore
set_option linter.unusedVariables false
set_option maxRecDepth 100000 in
theorem after_err (N C : List ByteArray) (I : List (List ByteArray)) (A0 A1 A2 : Option Addr) (c0 c1 c2 : Nat) (w : World) (hl : ∀ l ∈ I, l.length < LIM) (hr0 : Kd.C Kd.string w A0 N.length N) (hc0 : N.length ≤ c0) (hr1 : Kd.C (Kd.slice 9 Kd.string) w A1 I.length I) (hc1 : I.length ≤ c1) (he : ¬ mErr N I = 0) :
    Calls Try.prog 11 #[.slice A0 N.length c0, .slice A1 I.length c1, .slice A2 C.length c2] w fun e w' => e = .returned (.tuple #[.slice none 0 0, .int .i64 (mErr N I)]) ∧ Below w.heap.size w w' := by
  have HC := Go.Lib.hid (check_calls N I A0 A1 c0 c1 w hl hr0 hc0 hr1 hc1)
  generalize mErr N I = er at *
  have e0 : (er == 0) = false := beq_eq_false_iff_ne.mpr he
  have e1 : (er != 0) = true := bne_iff_ne.mpr he
  clear he hl hr0 hr1
  go_enter Try.func11, Try.ntmps11
  go_wp2_with fail
  refine HC.out.mono ?_
  rintro e w1 ⟨rfl, hd⟩
  have HB := Go.Lib.hid hd.below
  clear hd
  go_wp2_with fail
  go_ret2
  exact ⟨rfl, HB.out⟩
theorem nmA : nm [⟨#[65]⟩] 0 = [65] := by kernel_rfl
theorem errA : mErr [⟨#[65]⟩] [[]] = 0 := by kernel_rfl
/-- At one changed name the answer is that name. -/
theorem cs_one {out : List ByteArray} (h : AfterOk 1 (nm [⟨#[65]⟩]) (im [[]]) [[65]] (out.map ByteArray.toList)) : (cs out).length = 1 := by
  have h1 : ∀ e, e ∈ cs out ↔ e = [65] := by
    intro e
    unfold cs
    rw [compact_mem, mem_sort]
    constructor
    · intro he
      obtain ⟨i, hi, hn, _⟩ := h.just e he
      obtain rfl : i = 0 := by omega
      rw [← hn]; exact nmA
    · rintro rfl
      exact h.has _ (List.mem_singleton.2 rfl)
  have h2 : (cs out).Nodup := (compact_sorted _ (sorted_ _)).imp (fun h => h.2)
  have h3 : (cs out).Perm [[65]] := (List.perm_ext_iff_of_nodup h2 (by simp)).2 fun e => by rw [h1]; simp
  have := h3.length_eq
  simpa using this
end Go.Proofs.Ytdobkkoonamocaa.Mo
