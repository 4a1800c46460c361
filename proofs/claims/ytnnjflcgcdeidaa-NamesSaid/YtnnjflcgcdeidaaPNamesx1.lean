-- PRINTED BY print.sh 35421559b90ae4d0a3588c463048766b98c2df88dd9212a6774a882060cdf62d: not written by this session
import Derived.Test.YtnnjflcgcdeidaaPNamesx0
namespace Go.Proofs.Ytnnjflcgcdeidaa.PNames
open Go.RowKit Go.Proofs.YtnnjflcgcdeidaaW.PrintWords Go.Proofs.YtnnjflcgcdeidaaW.PrintLast Go.Proofs.YtnnjflcgcdeidaaW.PrintMore
attribute [local go_sem] max2_int min2_int max_two min_two max_three min_three max_four min_four   -- for this text's walks alone
set_option linter.unusedVariables false
set_option linter.unusedSimpArgs false

/-! ### word_Wrap: function 16 -/
def word_Wrap.f (a0 : Int) : Option (Int) := some (wrap64 ((Go.bits .and .i64 (wrap64 (a0 + 1073741824)) 2147483647) - 1073741824))
set_option maxHeartbeats 8000000 in
set_option maxRecDepth 100000 in
theorem word_Wrap.calls (a0 : Int) (r : Int) (w : World) (h : word_Wrap.f a0 = some r) :
    Calls Try.prog 16 #[.int .i64 a0] w fun e w' => e = .returned (.int .i64 r) ∧ Drawn0 w w' := by
  have H : (some (wrap64 ((Go.bits .and .i64 (wrap64 (a0 + 1073741824)) 2147483647) - 1073741824))) = some r := h
  clear h
  obtain rfl := Option.some.inj H
  go_enter Try.func16, Try.ntmps16
  go_wp2
  go_ret
  exact ⟨by first | rfl | (simp; done) | (simp [*]; done), by repeat (first | exact Drawn0.refl _ | apply Drawn0.step)⟩

/-! ### provenancelaw1_Names: function 3 -/
def provenancelaw1_Names.f  : Option (Bool) := (word_Wrap.f 1073741824).bind fun t101 => (some (t101 == (-1073741824)))
set_option maxHeartbeats 8000000 in
set_option maxRecDepth 100000 in
theorem provenancelaw1_Names.calls  (r : Bool) (w : World) (h : provenancelaw1_Names.f  = some r) :
    Calls Try.prog 3 #[] w fun e w' => e = .returned (.bool r) ∧ Drawn0 w w' := by
  have H : ((word_Wrap.f 1073741824).bind fun t101 => (some (t101 == (-1073741824)))) = some r := h
  clear h
  replace H := Option.bind_eq_some_iff.mp H
  obtain ⟨t101, A10, H⟩ := H
  replace H : (some (t101 == (-1073741824))) = some r := H
  have A1 := Aside0.mk A10
  clear A10
  obtain rfl := Option.some.inj H
  go_enter Try.func3, Try.ntmps3
  go_wp2_with (first | (go_at_call 16; (with_reducible refine (word_Wrap.calls 1073741824 t101 _ A1.out).mono ?_); rintro e w' ⟨rfl, ⟨nd, rfl⟩⟩))
  go_ret
  exact ⟨by first | rfl | (simp; done) | (simp [*]; done), by repeat (first | exact Drawn0.refl _ | apply Drawn0.step)⟩

/-- THE ONE PURE STATEMENT of provenancelaw1_Names: yours. -/
def provenancelaw1_Names.Pure : Prop := provenancelaw1_Names.f  = some true
theorem provenancelaw1_Names.walk (P : provenancelaw1_Names.Pure)  (w : World)  :
    Calls Try.prog 3 #[] w fun e w' => e = .returned (.bool true) ∧ Below w.heap.size w w' := by
  have h := P  
  refine (provenancelaw1_Names.calls  true w h).mono ?_
  rintro e w' ⟨rfl, hd⟩
  exact ⟨rfl, hd.below⟩

end Go.Proofs.Ytnnjflcgcdeidaa.PNames
