import Derived.Test.YtdobkkoonamocaaNe
namespace Go.Proofs.Ytdobkkoonamocaa.Mo
open Go.RowKit Go.Proofs.Ytdobkkoonamocaa.PModulesOrdered Go.Proofs.YtdobkkoonamocaaW.PrintWords Go.Proofs.YtdobkkoonamocaaW.PrintLast Go.Proofs.YtdobkkoonamocaaW.PrintMore
set_option linter.unusedVariables false
abbrev wA (w : World) : World := ((w.alloc (.cells #[.string ⟨#[65]⟩] 9)).alloc (.cells #[.slice none 0 0] 22)).alloc (.cells #[.string ⟨#[65]⟩] 9)
theorem first_after_args (w : World) :
    Kd.C Kd.string (wA w) (some ⟨w.heap.size, 0, none⟩) 1 [⟨#[65]⟩] ∧ Kd.C (Kd.slice 9 Kd.string) (wA w) (some ⟨w.heap.size + 1, 0, none⟩) 1 [[]] ∧
    Kd.C Kd.string (wA w) (some ⟨w.heap.size + 1 + 1, 0, none⟩) 1 [⟨#[65]⟩] ∧ Below w.heap.size w (wA w) := by
  have h1 := blk_alloc (blk_alloc (blk_new w (.cells #[.string ⟨#[65]⟩] 9)) (.cells #[.slice none 0 0] 22)) (.cells #[.string ⟨#[65]⟩] 9)
  have h2 := blk_alloc (blk_new (w.alloc (.cells #[.string ⟨#[65]⟩] 9)) (.cells #[.slice none 0 0] 22)) (.cells #[.string ⟨#[65]⟩] 9)
  have h3 := blk_new ((w.alloc (.cells #[.string ⟨#[65]⟩] 9)).alloc (.cells #[.slice none 0 0] 22)) (.cells #[.string ⟨#[65]⟩] 9)
  have s1 : (w.alloc (.cells #[.string ⟨#[65]⟩] 9)).heap.size = w.heap.size + 1 := by simp
  have s2 : ((w.alloc (.cells #[.string ⟨#[65]⟩] 9)).alloc (.cells #[.slice none 0 0] 22)).heap.size = w.heap.size + 1 + 1 := by simp
  rw [s1] at h2
  rw [s2] at h3
  refine ⟨lit_S (l := [⟨#[65]⟩]) h1 rfl (by decide), ?_, lit_S (l := [⟨#[65]⟩]) h3 rfl (by decide), below_alloc (below_alloc (below_alloc (Below.refl _ _) _) _) _⟩
  refine ⟨by decide, by decide, fun _ => ⟨_, rfl, fun j p hj => ?_⟩⟩
  match j, hj with
  | 0, hj =>
    obtain rfl : p = [] := by simpa using hj.symm
    refine ⟨[.slice none 0 0], rfl, ⟨_, _, rfl, Nat.le_refl _, Kd.C_nil _ _⟩, fun i u hu => ?_⟩
    obtain rfl : i = 0 := by have := (List.getElem?_eq_some_iff.1 hu).1; simp at this; omega
    rw [List.getElem?_cons_zero] at hu
    rw [add_plain, blk_cell h2]
    simpa using hu
/-- The first call of ModulesAfter. -/
theorem first_after (w : World) : Calls Try.prog 11 #[.slice (some ⟨w.heap.size, 0, none⟩) 1 1, .slice (some ⟨w.heap.size + 1, 0, none⟩) 1 1, .slice (some ⟨w.heap.size + 1 + 1, 0, none⟩) 1 1] (wA w) fun e w' => (∃ A c, e = .returned (.tuple #[.slice A 1 c, .int .i64 0])) ∧ Below w.heap.size w w' := by
  obtain ⟨a1, a2, a3, hb⟩ := first_after_args w
  generalize wA w = W at *
  refine (after_ok [⟨#[65]⟩] [⟨#[65]⟩] [[]] _ _ _ 1 1 1 W (by decide) rfl (by decide) (by decide) a1 (Nat.le_refl _) a2 (Nat.le_refl _) a3 (Nat.le_refl _) errA).mono ?_
  rintro e w' ⟨h, hb'⟩
  refine ⟨?_, hb.trans (hb'.mono hb.size)⟩
  rcases h with ⟨⟨s, hs, hn⟩, _⟩ | ⟨_, out, A, c, hok, rfl, _⟩
  · obtain rfl := List.mem_singleton.1 hs
    have : hasB [(⟨#[65]⟩ : ByteArray)] ⟨#[65]⟩ = true := by kernel_rfl
    rw [this] at hn; cases hn
  · refine ⟨A, c, ?_⟩
    rw [cs_one (out := out) (by have e1 : [(⟨#[65]⟩ : ByteArray)].map ByteArray.toList = [[65]] := by kernel_rfl
                                rw [e1] at hok; exact hok)]
end Go.Proofs.Ytdobkkoonamocaa.Mo
