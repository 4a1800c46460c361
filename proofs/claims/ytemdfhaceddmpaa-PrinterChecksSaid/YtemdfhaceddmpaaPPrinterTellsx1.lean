-- PRINTED BY print.sh 35421559b90ae4d0a3588c463048766b98c2df88dd9212a6774a882060cdf62d: not written by this session
import Derived.Test.YtemdfhaceddmpaaPPrinterTellsx0
namespace Go.Proofs.Ytemdfhaceddmpaa.PPrinterTells
open Go.RowKit Go.Proofs.YtemdfhaceddmpaaW.PrintWords Go.Proofs.YtemdfhaceddmpaaW.PrintLast Go.Proofs.YtemdfhaceddmpaaW.PrintMore
attribute [local go_sem] max2_int min2_int max_two min_two max_three min_three max_four min_four   -- for this text's walks alone
set_option linter.unusedVariables false
set_option linter.unusedSimpArgs false

-- NOT PRINTED: function 40 (bytealg_IndexByteString)

-- NOT PRINTED: function 39 (stringslite_IndexByte)

-- NOT PRINTED: function 34 (strings_IndexByte)

-- NOT PRINTED: function 24 (provenanceref1_isOf)

-- NOT PRINTED: function 22 (provenanceref1_fitsText)

/-! ### provenanceref1_shapeText: function 23 -/
mutual
def provenanceref1_shapeText.j0 : Nat → Int → Bool → Option (ByteArray)
  | 0, _, _ => none
  | k + 1, x3, x6 => if x6 = true then (some (⟨#[110, 42]⟩ : ByteArray)) else (if x3 = 5 then (some (⟨#[118, 42, 99, 43]⟩ : ByteArray)) else (if x3 = 6 then (provenanceref1_shapeText.j1 k x3 (x3 == 6)) else (provenanceref1_shapeText.j1 k x3 (x3 == 15))))
def provenanceref1_shapeText.j1 : Nat → Int → Bool → Option (ByteArray)
  | 0, _, _ => none
  | k + 1, x3, x11 => if x11 = true then (some (⟨#[84, 42]⟩ : ByteArray)) else (if x3 = 7 then (some (⟨#[111, 42]⟩ : ByteArray)) else (if x3 = 8 then (some (⟨#[84, 84]⟩ : ByteArray)) else (if x3 = 9 then (some (⟨#[118, 110, 42, 115, 42]⟩ : ByteArray)) else (if x3 = 10 then (some (⟨#[84, 113, 42, 100, 42]⟩ : ByteArray)) else (if x3 = 11 then (some (⟨#[118]⟩ : ByteArray)) else (if x3 = 12 then (some (⟨#[113, 42, 84]⟩ : ByteArray)) else (if x3 = 13 then (provenanceref1_shapeText.j2 k x3 (x3 == 13)) else (provenanceref1_shapeText.j2 k x3 (x3 == 30)))))))))
def provenanceref1_shapeText.j2 : Nat → Int → Bool → Option (ByteArray)
  | 0, _, _ => none
  | k + 1, x3, x26 => if x26 = true then (some (⟨#[69]⟩ : ByteArray)) else (if x3 = 16 then (some (⟨#[84, 114, 84]⟩ : ByteArray)) else (if x3 = 17 then (some (⟨#[102, 42, 118, 63]⟩ : ByteArray)) else (if x3 = 18 then (some (⟨#[110, 42, 118, 63]⟩ : ByteArray)) else (if x3 = 19 then (some (⟨#[88]⟩ : ByteArray)) else (if x3 = 22 then (some (⟨#[86, 43, 69]⟩ : ByteArray)) else (if x3 = 23 then (provenanceref1_shapeText.j3 k x3 (x3 == 23)) else (provenanceref1_shapeText.j3 k x3 (x3 == 31))))))))
def provenanceref1_shapeText.j3 : Nat → Int → Bool → Option (ByteArray)
  | 0, _, _ => none
  | k + 1, x3, x39 => if x39 = true then (some (⟨#[69, 69]⟩ : ByteArray)) else (if x3 = 25 then (some (⟨#[98, 42, 69]⟩ : ByteArray)) else (if x3 = 26 then (some (⟨#[69, 69, 69]⟩ : ByteArray)) else (if x3 = 27 then (some (⟨#[69, 97, 42]⟩ : ByteArray)) else (if x3 = 28 then (some (⟨#[80, 69]⟩ : ByteArray)) else (if x3 = 29 then (some (⟨#[102, 42]⟩ : ByteArray)) else (if x3 = 32 then (some (⟨#[69, 104, 42]⟩ : ByteArray)) else (if x3 = 33 then (some (⟨#[86, 69]⟩ : ByteArray)) else (if x3 = 34 then (some (⟨#[86, 86, 69]⟩ : ByteArray)) else (if x3 = 38 then (some (⟨#[80, 42]⟩ : ByteArray)) else (some (⟨#[]⟩ : ByteArray)))))))))))
end
def provenanceref1_shapeText.f (k : Nat) (a0 : Int) : Option (ByteArray) := if a0 = 0 then (some (⟨#[68, 42]⟩ : ByteArray)) else (if a0 = 1 then (provenanceref1_shapeText.j0 k a0 (a0 == 1)) else (provenanceref1_shapeText.j0 k a0 (a0 == 2)))
theorem provenanceref1_shapeText.mono_l : ∀ k, (∀ y0 y1, LeO (provenanceref1_shapeText.j0 k y0 y1) (provenanceref1_shapeText.j0 (k + 1) y0 y1)) ∧ (∀ y0 y1, LeO (provenanceref1_shapeText.j1 k y0 y1) (provenanceref1_shapeText.j1 (k + 1) y0 y1)) ∧ (∀ y0 y1, LeO (provenanceref1_shapeText.j2 k y0 y1) (provenanceref1_shapeText.j2 (k + 1) y0 y1)) ∧ (∀ y0 y1, LeO (provenanceref1_shapeText.j3 k y0 y1) (provenanceref1_shapeText.j3 (k + 1) y0 y1))
  | 0 => ⟨fun _ _ r h => by simp [provenanceref1_shapeText.j0] at h, fun _ _ r h => by simp [provenanceref1_shapeText.j1] at h, fun _ _ r h => by simp [provenanceref1_shapeText.j2] at h, fun _ _ r h => by simp [provenanceref1_shapeText.j3] at h⟩
  | k + 1 => by
    obtain ⟨ih0, ih1, ih2, ih3⟩ := provenanceref1_shapeText.mono_l k
    refine ⟨?_, ?_, ?_, ?_⟩
    · intro y0 y1
      unfold provenanceref1_shapeText.j0
      repeat' first
      | (with_reducible exact ih0 _ _)
      | (with_reducible exact ih1 _ _)
      | (with_reducible exact ih2 _ _)
      | (with_reducible exact ih3 _ _)
      | (with_reducible exact LeO.refl _)
      | (with_reducible exact LeO.none _)
      | (with_reducible refine LeO.ite ?_ ?_)
      | (with_reducible refine LeO.bind ?_ (fun _ => ?_))
      | exact ih0 _ _
      | exact ih1 _ _
      | exact ih2 _ _
      | exact ih3 _ _
      | exact LeO.none _
      | refine LeO.ite ?_ ?_
      | refine LeO.bind ?_ (fun _ => ?_)
    · intro y0 y1
      unfold provenanceref1_shapeText.j1
      repeat' first
      | (with_reducible exact ih0 _ _)
      | (with_reducible exact ih1 _ _)
      | (with_reducible exact ih2 _ _)
      | (with_reducible exact ih3 _ _)
      | (with_reducible exact LeO.refl _)
      | (with_reducible exact LeO.none _)
      | (with_reducible refine LeO.ite ?_ ?_)
      | (with_reducible refine LeO.bind ?_ (fun _ => ?_))
      | exact ih0 _ _
      | exact ih1 _ _
      | exact ih2 _ _
      | exact ih3 _ _
      | exact LeO.none _
      | refine LeO.ite ?_ ?_
      | refine LeO.bind ?_ (fun _ => ?_)
    · intro y0 y1
      unfold provenanceref1_shapeText.j2
      repeat' first
      | (with_reducible exact ih0 _ _)
      | (with_reducible exact ih1 _ _)
      | (with_reducible exact ih2 _ _)
      | (with_reducible exact ih3 _ _)
      | (with_reducible exact LeO.refl _)
      | (with_reducible exact LeO.none _)
      | (with_reducible refine LeO.ite ?_ ?_)
      | (with_reducible refine LeO.bind ?_ (fun _ => ?_))
      | exact ih0 _ _
      | exact ih1 _ _
      | exact ih2 _ _
      | exact ih3 _ _
      | exact LeO.none _
      | refine LeO.ite ?_ ?_
      | refine LeO.bind ?_ (fun _ => ?_)
    · intro y0 y1
      unfold provenanceref1_shapeText.j3
      repeat' first
      | (with_reducible exact ih0 _ _)
      | (with_reducible exact ih1 _ _)
      | (with_reducible exact ih2 _ _)
      | (with_reducible exact ih3 _ _)
      | (with_reducible exact LeO.refl _)
      | (with_reducible exact LeO.none _)
      | (with_reducible refine LeO.ite ?_ ?_)
      | (with_reducible refine LeO.bind ?_ (fun _ => ?_))
      | exact ih0 _ _
      | exact ih1 _ _
      | exact ih2 _ _
      | exact ih3 _ _
      | exact LeO.none _
      | refine LeO.ite ?_ ?_
      | refine LeO.bind ?_ (fun _ => ?_)
theorem provenanceref1_shapeText.mono : ∀ a0 k, LeO (provenanceref1_shapeText.f k a0) (provenanceref1_shapeText.f (k + 1) a0) := by
  intro a0 k
  obtain ⟨ih0, ih1, ih2, ih3⟩ := provenanceref1_shapeText.mono_l k
  unfold provenanceref1_shapeText.f
  repeat' first
      | (with_reducible exact ih0 _ _)
      | (with_reducible exact ih1 _ _)
      | (with_reducible exact ih2 _ _)
      | (with_reducible exact ih3 _ _)
      | (with_reducible exact LeO.refl _)
      | (with_reducible exact LeO.none _)
      | (with_reducible refine LeO.ite ?_ ?_)
      | (with_reducible refine LeO.bind ?_ (fun _ => ?_))
      | exact ih0 _ _
      | exact ih1 _ _
      | exact ih2 _ _
      | exact ih3 _ _
      | exact LeO.none _
      | refine LeO.ite ?_ ?_
      | refine LeO.bind ?_ (fun _ => ?_)
set_option maxHeartbeats 8000000 in
set_option maxRecDepth 100000 in
theorem provenanceref1_shapeText.calls (k : Nat) (a0 : Int) (r : ByteArray) (w : World) (h : provenanceref1_shapeText.f k a0 = some r) :
    Calls Try.prog 23 #[.int .i64 a0] w fun e w' => e = .returned (.string r) ∧ Drawn0 w w' := by
  have H : (if a0 = 0 then (some (⟨#[68, 42]⟩ : ByteArray)) else (if a0 = 1 then (provenanceref1_shapeText.j0 k a0 (a0 == 1)) else (provenanceref1_shapeText.j0 k a0 (a0 == 2)))) = some r := h
  clear h
  by_cases c2 : a0 = 0
  · rw [if_pos c2] at H
    have c2b0 : (a0 == 0) = true := beq_iff_eq.mpr c2
    have c2b1 : (a0 != 0) = false := bne_eq_false_iff_eq.mpr c2
    clear c2
    obtain rfl := Option.some.inj H
    go_enter Try.func23, Try.ntmps23
    go_wp2
    go_ret
    exact ⟨by first | rfl | (simp; done) | (simp [*]; done), by repeat (first | exact Drawn0.refl _ | apply Drawn0.step)⟩
  · rw [if_neg c2] at H
    have c2b0 : (a0 == 0) = false := beq_eq_false_iff_ne.mpr c2
    have c2b1 : (a0 != 0) = true := bne_iff_ne.mpr c2
    have HC3 := Aside0.mk H
    clear H
    go_enter Try.func23, Try.ntmps23
    go_upto_if 6 with (fail)
    go_cut [6] (fun v6 wc => ∃ (kq : Nat) (x6_2 : Bool), v6 = .bool x6_2 ∧ Aside0 (provenanceref1_shapeText.j0 kq a0 x6_2 = some r) ∧ Aside0 (kq ≤ k) ∧ Drawn0 w wc)
    case first =>
      have H := HC3.out
      clear HC3
      by_cases c4 : a0 = 1
      · rw [if_pos c4] at H
        have c4b0 : (a0 == 1) = true := beq_iff_eq.mpr c4
        have c4b1 : (a0 != 1) = false := bne_eq_false_iff_eq.mpr c4
        clear c4
        (first | rw [c4b0] | (simp only [i64_w, i32_w]; rw [c4b0]) | skip)
        have H' := Aside0.mk H
        clear H
        go_wp2
        go_meet
        case rel => exact ⟨_, ((a0 == 1)), (by first | rfl | (simp; done) | (simp [*]; done)), H', ⟨by first | omega | exact Nat.le_refl _⟩, by repeat (first | exact Drawn0.refl _ | apply Drawn0.step)⟩
      · rw [if_neg c4] at H
        have c4b0 : (a0 == 1) = false := beq_eq_false_iff_ne.mpr c4
        have c4b1 : (a0 != 1) = true := bne_iff_ne.mpr c4
        (first | rw [c4b0] | (simp only [i64_w, i32_w]; rw [c4b0]) | skip)
        have H' := Aside0.mk H
        clear H
        go_wp2
        go_meet
        case rel => exact ⟨_, ((a0 == 2)), (by first | rfl | (simp; done) | (simp [*]; done)), H', ⟨by first | omega | exact Nat.le_refl _⟩, by repeat (first | exact Drawn0.refl _ | apply Drawn0.step)⟩
    case rest =>
      clear HC3
      try clear c2
      try clear c2b0
      try clear c2b1
      try clear p2
      try clear c4
      try clear c4b0
      try clear c4b1
      obtain ⟨kq, x6_2, rfl, HA, HJ2, ⟨mc2, rfl⟩⟩ := hcut
      cases kq with
      | zero => exact absurd HA.out (by simp [provenanceref1_shapeText.j0])
      | succ kj2 =>
        have H := HA.out
        clear HA
        simp only [provenanceref1_shapeText.j0] at H
        by_cases c5 : x6_2 = true
        · subst c5
          have H1 : (some (⟨#[110, 42]⟩ : ByteArray)) = some r := by rw [if_pos rfl] at H; exact H
          clear H
          have H := H1
          clear H1
          obtain rfl := Option.some.inj H
          go_wp2
          go_ret
          exact ⟨by first | rfl | (simp; done) | (simp [*]; done), by repeat (first | exact Drawn0.refl _ | apply Drawn0.step)⟩
        · replace c5 := Bool.eq_false_iff.mpr c5
          subst c5
          have H1 : (if a0 = 5 then (some (⟨#[118, 42, 99, 43]⟩ : ByteArray)) else (if a0 = 6 then (provenanceref1_shapeText.j1 kj2 a0 (a0 == 6)) else (provenanceref1_shapeText.j1 kj2 a0 (a0 == 15)))) = some r := by rw [if_neg (show ¬ (false = true) by decide)] at H; exact H
          clear H
          have H := H1
          clear H1
          by_cases c6 : a0 = 5
          · rw [if_pos c6] at H
            have c6b0 : (a0 == 5) = true := beq_iff_eq.mpr c6
            have c6b1 : (a0 != 5) = false := bne_eq_false_iff_eq.mpr c6
            clear c6
            obtain rfl := Option.some.inj H
            go_wp2
            go_ret
            exact ⟨by first | rfl | (simp; done) | (simp [*]; done), by repeat (first | exact Drawn0.refl _ | apply Drawn0.step)⟩
          · rw [if_neg c6] at H
            have c6b0 : (a0 == 5) = false := beq_eq_false_iff_ne.mpr c6
            have c6b1 : (a0 != 5) = true := bne_iff_ne.mpr c6
            have HC7 := Aside0.mk H
            clear H
            go_upto_if 11 with (fail)
            go_cut [11] (fun v11 wc => ∃ (kq : Nat) (x11_6 : Bool), v11 = .bool x11_6 ∧ Aside0 (provenanceref1_shapeText.j1 kq a0 x11_6 = some r) ∧ Aside0 (kq ≤ kj2) ∧ Drawn0 w wc)
            case first =>
              have H := HC7.out
              clear HC7
              by_cases c8 : a0 = 6
              · rw [if_pos c8] at H
                have c8b0 : (a0 == 6) = true := beq_iff_eq.mpr c8
                have c8b1 : (a0 != 6) = false := bne_eq_false_iff_eq.mpr c8
                clear c8
                (first | rw [c8b0] | (simp only [i64_w, i32_w]; rw [c8b0]) | skip)
                have H' := Aside0.mk H
                clear H
                go_wp2
                go_meet
                case rel => exact ⟨_, ((a0 == 6)), (by first | rfl | (simp; done) | (simp [*]; done)), H', ⟨by have := HJ2.out; first | omega | exact Nat.le_refl _⟩, by repeat (first | exact Drawn0.refl _ | apply Drawn0.step)⟩
              · rw [if_neg c8] at H
                have c8b0 : (a0 == 6) = false := beq_eq_false_iff_ne.mpr c8
                have c8b1 : (a0 != 6) = true := bne_iff_ne.mpr c8
                (first | rw [c8b0] | (simp only [i64_w, i32_w]; rw [c8b0]) | skip)
                have H' := Aside0.mk H
                clear H
                go_wp2
                go_meet
                case rel => exact ⟨_, ((a0 == 15)), (by first | rfl | (simp; done) | (simp [*]; done)), H', ⟨by have := HJ2.out; first | omega | exact Nat.le_refl _⟩, by repeat (first | exact Drawn0.refl _ | apply Drawn0.step)⟩
            case rest =>
              clear HC7
              try clear c2
              try clear c2b0
              try clear c2b1
              try clear p2
              try clear c4
              try clear c4b0
              try clear c4b1
              try clear c5
              try clear c6
              try clear c6b0
              try clear c6b1
              try clear c8
              try clear c8b0
              try clear c8b1
              try clear p2
              obtain ⟨kq, x11_6, rfl, HA, HJ6, ⟨mc6, rfl⟩⟩ := hcut
              cases kq with
              | zero => exact absurd HA.out (by simp [provenanceref1_shapeText.j1])
              | succ kj6 =>
                have H := HA.out
                clear HA
                simp only [provenanceref1_shapeText.j1] at H
                by_cases c9 : x11_6 = true
                · subst c9
                  have H1 : (some (⟨#[84, 42]⟩ : ByteArray)) = some r := by rw [if_pos rfl] at H; exact H
                  clear H
                  have H := H1
                  clear H1
                  obtain rfl := Option.some.inj H
                  go_wp2
                  go_ret
                  exact ⟨by first | rfl | (simp; done) | (simp [*]; done), by repeat (first | exact Drawn0.refl _ | apply Drawn0.step)⟩
                · replace c9 := Bool.eq_false_iff.mpr c9
                  subst c9
                  have H1 : (if a0 = 7 then (some (⟨#[111, 42]⟩ : ByteArray)) else (if a0 = 8 then (some (⟨#[84, 84]⟩ : ByteArray)) else (if a0 = 9 then (some (⟨#[118, 110, 42, 115, 42]⟩ : ByteArray)) else (if a0 = 10 then (some (⟨#[84, 113, 42, 100, 42]⟩ : ByteArray)) else (if a0 = 11 then (some (⟨#[118]⟩ : ByteArray)) else (if a0 = 12 then (some (⟨#[113, 42, 84]⟩ : ByteArray)) else (if a0 = 13 then (provenanceref1_shapeText.j2 kj6 a0 (a0 == 13)) else (provenanceref1_shapeText.j2 kj6 a0 (a0 == 30))))))))) = some r := by rw [if_neg (show ¬ (false = true) by decide)] at H; exact H
                  clear H
                  have H := H1
                  clear H1
                  by_cases c10 : a0 = 7
                  · rw [if_pos c10] at H
                    have c10b0 : (a0 == 7) = true := beq_iff_eq.mpr c10
                    have c10b1 : (a0 != 7) = false := bne_eq_false_iff_eq.mpr c10
                    clear c10
                    obtain rfl := Option.some.inj H
                    go_wp2
                    go_ret
                    exact ⟨by first | rfl | (simp; done) | (simp [*]; done), by repeat (first | exact Drawn0.refl _ | apply Drawn0.step)⟩
                  · rw [if_neg c10] at H
                    have c10b0 : (a0 == 7) = false := beq_eq_false_iff_ne.mpr c10
                    have c10b1 : (a0 != 7) = true := bne_iff_ne.mpr c10
                    by_cases c11 : a0 = 8
                    · rw [if_pos c11] at H
                      have c11b0 : (a0 == 8) = true := beq_iff_eq.mpr c11
                      have c11b1 : (a0 != 8) = false := bne_eq_false_iff_eq.mpr c11
                      clear c11
                      obtain rfl := Option.some.inj H
                      go_wp2
                      go_ret
                      exact ⟨by first | rfl | (simp; done) | (simp [*]; done), by repeat (first | exact Drawn0.refl _ | apply Drawn0.step)⟩
                    · rw [if_neg c11] at H
                      have c11b0 : (a0 == 8) = false := beq_eq_false_iff_ne.mpr c11
                      have c11b1 : (a0 != 8) = true := bne_iff_ne.mpr c11
                      by_cases c12 : a0 = 9
                      · rw [if_pos c12] at H
                        have c12b0 : (a0 == 9) = true := beq_iff_eq.mpr c12
                        have c12b1 : (a0 != 9) = false := bne_eq_false_iff_eq.mpr c12
                        clear c12
                        obtain rfl := Option.some.inj H
                        go_wp2
                        go_ret
                        exact ⟨by first | rfl | (simp; done) | (simp [*]; done), by repeat (first | exact Drawn0.refl _ | apply Drawn0.step)⟩
                      · rw [if_neg c12] at H
                        have c12b0 : (a0 == 9) = false := beq_eq_false_iff_ne.mpr c12
                        have c12b1 : (a0 != 9) = true := bne_iff_ne.mpr c12
                        by_cases c13 : a0 = 10
                        · rw [if_pos c13] at H
                          have c13b0 : (a0 == 10) = true := beq_iff_eq.mpr c13
                          have c13b1 : (a0 != 10) = false := bne_eq_false_iff_eq.mpr c13
                          clear c13
                          obtain rfl := Option.some.inj H
                          go_wp2
                          go_ret
                          exact ⟨by first | rfl | (simp; done) | (simp [*]; done), by repeat (first | exact Drawn0.refl _ | apply Drawn0.step)⟩
                        · rw [if_neg c13] at H
                          have c13b0 : (a0 == 10) = false := beq_eq_false_iff_ne.mpr c13
                          have c13b1 : (a0 != 10) = true := bne_iff_ne.mpr c13
                          by_cases c14 : a0 = 11
                          · rw [if_pos c14] at H
                            have c14b0 : (a0 == 11) = true := beq_iff_eq.mpr c14
                            have c14b1 : (a0 != 11) = false := bne_eq_false_iff_eq.mpr c14
                            clear c14
                            obtain rfl := Option.some.inj H
                            go_wp2
                            go_ret
                            exact ⟨by first | rfl | (simp; done) | (simp [*]; done), by repeat (first | exact Drawn0.refl _ | apply Drawn0.step)⟩
                          · rw [if_neg c14] at H
                            have c14b0 : (a0 == 11) = false := beq_eq_false_iff_ne.mpr c14
                            have c14b1 : (a0 != 11) = true := bne_iff_ne.mpr c14
                            by_cases c15 : a0 = 12
                            · rw [if_pos c15] at H
                              have c15b0 : (a0 == 12) = true := beq_iff_eq.mpr c15
                              have c15b1 : (a0 != 12) = false := bne_eq_false_iff_eq.mpr c15
                              clear c15
                              obtain rfl := Option.some.inj H
                              go_wp2
                              go_ret
                              exact ⟨by first | rfl | (simp; done) | (simp [*]; done), by repeat (first | exact Drawn0.refl _ | apply Drawn0.step)⟩
                            · rw [if_neg c15] at H
                              have c15b0 : (a0 == 12) = false := beq_eq_false_iff_ne.mpr c15
                              have c15b1 : (a0 != 12) = true := bne_iff_ne.mpr c15
                              have HC16 := Aside0.mk H
                              clear H
                              go_upto_if 26 with (fail)
                              go_cut [26] (fun v26 wc => ∃ (kq : Nat) (x26_15 : Bool), v26 = .bool x26_15 ∧ Aside0 (provenanceref1_shapeText.j2 kq a0 x26_15 = some r) ∧ Aside0 (kq ≤ kj6) ∧ Drawn0 w wc)
                              case first =>
                                have H := HC16.out
                                clear HC16
                                by_cases c17 : a0 = 13
                                · rw [if_pos c17] at H
                                  have c17b0 : (a0 == 13) = true := beq_iff_eq.mpr c17
                                  have c17b1 : (a0 != 13) = false := bne_eq_false_iff_eq.mpr c17
                                  clear c17
                                  (first | rw [c17b0] | (simp only [i64_w, i32_w]; rw [c17b0]) | skip)
                                  have H' := Aside0.mk H
                                  clear H
                                  go_wp2
                                  go_meet
                                  case rel => exact ⟨_, ((a0 == 13)), (by first | rfl | (simp; done) | (simp [*]; done)), H', ⟨by have := HJ2.out; have := HJ6.out; first | omega | exact Nat.le_refl _⟩, by repeat (first | exact Drawn0.refl _ | apply Drawn0.step)⟩
                                · rw [if_neg c17] at H
                                  have c17b0 : (a0 == 13) = false := beq_eq_false_iff_ne.mpr c17
                                  have c17b1 : (a0 != 13) = true := bne_iff_ne.mpr c17
                                  (first | rw [c17b0] | (simp only [i64_w, i32_w]; rw [c17b0]) | skip)
                                  have H' := Aside0.mk H
                                  clear H
                                  go_wp2
                                  go_meet
                                  case rel => exact ⟨_, ((a0 == 30)), (by first | rfl | (simp; done) | (simp [*]; done)), H', ⟨by have := HJ2.out; have := HJ6.out; first | omega | exact Nat.le_refl _⟩, by repeat (first | exact Drawn0.refl _ | apply Drawn0.step)⟩
                              case rest =>
                                clear HC16
                                try clear c1
                                try clear c2
                                try clear c2b0
                                try clear c2b1
                                try clear p2
                                try clear c4
                                try clear c4b0
                                try clear c4b1
                                try clear c5
                                try clear c6
                                try clear c6b0
                                try clear c6b1
                                try clear c8
                                try clear c8b0
                                try clear c8b1
                                try clear c9
                                try clear c10
                                try clear c10b0
                                try clear c10b1
                                try clear c11
                                try clear c11b0
                                try clear c11b1
                                try clear c12
                                try clear c12b0
                                try clear c12b1
                                try clear c13
                                try clear c13b0
                                try clear c13b1
                                try clear c14
                                try clear c14b0
                                try clear c14b1
                                try clear c15
                                try clear c15b0
                                try clear c15b1
                                try clear c17
                                try clear c17b0
                                try clear c17b1
                                try clear p2
                                obtain ⟨kq, x26_15, rfl, HA, HJ15, ⟨mc15, rfl⟩⟩ := hcut
                                cases kq with
                                | zero => exact absurd HA.out (by simp [provenanceref1_shapeText.j2])
                                | succ kj15 =>
                                  have H := HA.out
                                  clear HA
                                  simp only [provenanceref1_shapeText.j2] at H
                                  by_cases c18 : x26_15 = true
                                  · subst c18
                                    have H1 : (some (⟨#[69]⟩ : ByteArray)) = some r := by rw [if_pos rfl] at H; exact H
                                    clear H
                                    have H := H1
                                    clear H1
                                    obtain rfl := Option.some.inj H
                                    go_wp2
                                    go_ret
                                    exact ⟨by first | rfl | (simp; done) | (simp [*]; done), by repeat (first | exact Drawn0.refl _ | apply Drawn0.step)⟩
                                  · replace c18 := Bool.eq_false_iff.mpr c18
                                    subst c18
                                    have H1 : (if a0 = 16 then (some (⟨#[84, 114, 84]⟩ : ByteArray)) else (if a0 = 17 then (some (⟨#[102, 42, 118, 63]⟩ : ByteArray)) else (if a0 = 18 then (some (⟨#[110, 42, 118, 63]⟩ : ByteArray)) else (if a0 = 19 then (some (⟨#[88]⟩ : ByteArray)) else (if a0 = 22 then (some (⟨#[86, 43, 69]⟩ : ByteArray)) else (if a0 = 23 then (provenanceref1_shapeText.j3 kj15 a0 (a0 == 23)) else (provenanceref1_shapeText.j3 kj15 a0 (a0 == 31)))))))) = some r := by rw [if_neg (show ¬ (false = true) by decide)] at H; exact H
                                    clear H
                                    have H := H1
                                    clear H1
                                    by_cases c19 : a0 = 16
                                    · rw [if_pos c19] at H
                                      have c19b0 : (a0 == 16) = true := beq_iff_eq.mpr c19
                                      have c19b1 : (a0 != 16) = false := bne_eq_false_iff_eq.mpr c19
                                      clear c19
                                      obtain rfl := Option.some.inj H
                                      go_wp2
                                      go_ret
                                      exact ⟨by first | rfl | (simp; done) | (simp [*]; done), by repeat (first | exact Drawn0.refl _ | apply Drawn0.step)⟩
                                    · rw [if_neg c19] at H
                                      have c19b0 : (a0 == 16) = false := beq_eq_false_iff_ne.mpr c19
                                      have c19b1 : (a0 != 16) = true := bne_iff_ne.mpr c19
                                      by_cases c20 : a0 = 17
                                      · rw [if_pos c20] at H
                                        have c20b0 : (a0 == 17) = true := beq_iff_eq.mpr c20
                                        have c20b1 : (a0 != 17) = false := bne_eq_false_iff_eq.mpr c20
                                        clear c20
                                        obtain rfl := Option.some.inj H
                                        go_wp2
                                        go_ret
                                        exact ⟨by first | rfl | (simp; done) | (simp [*]; done), by repeat (first | exact Drawn0.refl _ | apply Drawn0.step)⟩
                                      · rw [if_neg c20] at H
                                        have c20b0 : (a0 == 17) = false := beq_eq_false_iff_ne.mpr c20
                                        have c20b1 : (a0 != 17) = true := bne_iff_ne.mpr c20
                                        by_cases c21 : a0 = 18
                                        · rw [if_pos c21] at H
                                          have c21b0 : (a0 == 18) = true := beq_iff_eq.mpr c21
                                          have c21b1 : (a0 != 18) = false := bne_eq_false_iff_eq.mpr c21
                                          clear c21
                                          obtain rfl := Option.some.inj H
                                          go_wp2
                                          go_ret
                                          exact ⟨by first | rfl | (simp; done) | (simp [*]; done), by repeat (first | exact Drawn0.refl _ | apply Drawn0.step)⟩
                                        · rw [if_neg c21] at H
                                          have c21b0 : (a0 == 18) = false := beq_eq_false_iff_ne.mpr c21
                                          have c21b1 : (a0 != 18) = true := bne_iff_ne.mpr c21
                                          by_cases c22 : a0 = 19
                                          · rw [if_pos c22] at H
                                            have c22b0 : (a0 == 19) = true := beq_iff_eq.mpr c22
                                            have c22b1 : (a0 != 19) = false := bne_eq_false_iff_eq.mpr c22
                                            clear c22
                                            obtain rfl := Option.some.inj H
                                            go_wp2
                                            go_ret
                                            exact ⟨by first | rfl | (simp; done) | (simp [*]; done), by repeat (first | exact Drawn0.refl _ | apply Drawn0.step)⟩
                                          · rw [if_neg c22] at H
                                            have c22b0 : (a0 == 19) = false := beq_eq_false_iff_ne.mpr c22
                                            have c22b1 : (a0 != 19) = true := bne_iff_ne.mpr c22
                                            by_cases c23 : a0 = 22
                                            · rw [if_pos c23] at H
                                              have c23b0 : (a0 == 22) = true := beq_iff_eq.mpr c23
                                              have c23b1 : (a0 != 22) = false := bne_eq_false_iff_eq.mpr c23
                                              clear c23
                                              obtain rfl := Option.some.inj H
                                              go_wp2
                                              go_ret
                                              exact ⟨by first | rfl | (simp; done) | (simp [*]; done), by repeat (first | exact Drawn0.refl _ | apply Drawn0.step)⟩
                                            · rw [if_neg c23] at H
                                              have c23b0 : (a0 == 22) = false := beq_eq_false_iff_ne.mpr c23
                                              have c23b1 : (a0 != 22) = true := bne_iff_ne.mpr c23
                                              have HC24 := Aside0.mk H
                                              clear H
                                              go_upto_if 39 with (fail)
                                              go_cut [39] (fun v39 wc => ∃ (kq : Nat) (x39_23 : Bool), v39 = .bool x39_23 ∧ Aside0 (provenanceref1_shapeText.j3 kq a0 x39_23 = some r) ∧ Aside0 (kq ≤ kj15) ∧ Drawn0 w wc)
                                              case first =>
                                                have H := HC24.out
                                                clear HC24
                                                by_cases c25 : a0 = 23
                                                · rw [if_pos c25] at H
                                                  have c25b0 : (a0 == 23) = true := beq_iff_eq.mpr c25
                                                  have c25b1 : (a0 != 23) = false := bne_eq_false_iff_eq.mpr c25
                                                  clear c25
                                                  (first | rw [c25b0] | (simp only [i64_w, i32_w]; rw [c25b0]) | skip)
                                                  have H' := Aside0.mk H
                                                  clear H
                                                  go_wp2
                                                  go_meet
                                                  case rel => exact ⟨_, ((a0 == 23)), (by first | rfl | (simp; done) | (simp [*]; done)), H', ⟨by have := HJ2.out; have := HJ6.out; have := HJ15.out; first | omega | exact Nat.le_refl _⟩, by repeat (first | exact Drawn0.refl _ | apply Drawn0.step)⟩
                                                · rw [if_neg c25] at H
                                                  have c25b0 : (a0 == 23) = false := beq_eq_false_iff_ne.mpr c25
                                                  have c25b1 : (a0 != 23) = true := bne_iff_ne.mpr c25
                                                  (first | rw [c25b0] | (simp only [i64_w, i32_w]; rw [c25b0]) | skip)
                                                  have H' := Aside0.mk H
                                                  clear H
                                                  go_wp2
                                                  go_meet
                                                  case rel => exact ⟨_, ((a0 == 31)), (by first | rfl | (simp; done) | (simp [*]; done)), H', ⟨by have := HJ2.out; have := HJ6.out; have := HJ15.out; first | omega | exact Nat.le_refl _⟩, by repeat (first | exact Drawn0.refl _ | apply Drawn0.step)⟩
                                              case rest =>
                                                clear HC24
                                                try clear c1
                                                try clear c2
                                                try clear c2b0
                                                try clear c2b1
                                                try clear p2
                                                try clear c4
                                                try clear c4b0
                                                try clear c4b1
                                                try clear c5
                                                try clear c6
                                                try clear c6b0
                                                try clear c6b1
                                                try clear c8
                                                try clear c8b0
                                                try clear c8b1
                                                try clear c9
                                                try clear c10
                                                try clear c10b0
                                                try clear c10b1
                                                try clear c11
                                                try clear c11b0
                                                try clear c11b1
                                                try clear c12
                                                try clear c12b0
                                                try clear c12b1
                                                try clear c13
                                                try clear c13b0
                                                try clear c13b1
                                                try clear c14
                                                try clear c14b0
                                                try clear c14b1
                                                try clear c15
                                                try clear c15b0
                                                try clear c15b1
                                                try clear c17
                                                try clear c17b0
                                                try clear c17b1
                                                try clear c18
                                                try clear c19
                                                try clear c19b0
                                                try clear c19b1
                                                try clear c20
                                                try clear c20b0
                                                try clear c20b1
                                                try clear c21
                                                try clear c21b0
                                                try clear c21b1
                                                try clear c22
                                                try clear c22b0
                                                try clear c22b1
                                                try clear c23
                                                try clear c23b0
                                                try clear c23b1
                                                try clear c25
                                                try clear c25b0
                                                try clear c25b1
                                                try clear p2
                                                obtain ⟨kq, x39_23, rfl, HA, HJ23, ⟨mc23, rfl⟩⟩ := hcut
                                                cases kq with
                                                | zero => exact absurd HA.out (by simp [provenanceref1_shapeText.j3])
                                                | succ kj23 =>
                                                  have H := HA.out
                                                  clear HA
                                                  simp only [provenanceref1_shapeText.j3] at H
                                                  by_cases c26 : x39_23 = true
                                                  · subst c26
                                                    have H1 : (some (⟨#[69, 69]⟩ : ByteArray)) = some r := by rw [if_pos rfl] at H; exact H
                                                    clear H
                                                    have H := H1
                                                    clear H1
                                                    obtain rfl := Option.some.inj H
                                                    go_wp2
                                                    go_ret
                                                    exact ⟨by first | rfl | (simp; done) | (simp [*]; done), by repeat (first | exact Drawn0.refl _ | apply Drawn0.step)⟩
                                                  · replace c26 := Bool.eq_false_iff.mpr c26
                                                    subst c26
                                                    have H1 : (if a0 = 25 then (some (⟨#[98, 42, 69]⟩ : ByteArray)) else (if a0 = 26 then (some (⟨#[69, 69, 69]⟩ : ByteArray)) else (if a0 = 27 then (some (⟨#[69, 97, 42]⟩ : ByteArray)) else (if a0 = 28 then (some (⟨#[80, 69]⟩ : ByteArray)) else (if a0 = 29 then (some (⟨#[102, 42]⟩ : ByteArray)) else (if a0 = 32 then (some (⟨#[69, 104, 42]⟩ : ByteArray)) else (if a0 = 33 then (some (⟨#[86, 69]⟩ : ByteArray)) else (if a0 = 34 then (some (⟨#[86, 86, 69]⟩ : ByteArray)) else (if a0 = 38 then (some (⟨#[80, 42]⟩ : ByteArray)) else (some (⟨#[]⟩ : ByteArray))))))))))) = some r := by rw [if_neg (show ¬ (false = true) by decide)] at H; exact H
                                                    clear H
                                                    have H := H1
                                                    clear H1
                                                    by_cases c27 : a0 = 25
                                                    · rw [if_pos c27] at H
                                                      have c27b0 : (a0 == 25) = true := beq_iff_eq.mpr c27
                                                      have c27b1 : (a0 != 25) = false := bne_eq_false_iff_eq.mpr c27
                                                      clear c27
                                                      obtain rfl := Option.some.inj H
                                                      go_wp2
                                                      go_ret
                                                      exact ⟨by first | rfl | (simp; done) | (simp [*]; done), by repeat (first | exact Drawn0.refl _ | apply Drawn0.step)⟩
                                                    · rw [if_neg c27] at H
                                                      have c27b0 : (a0 == 25) = false := beq_eq_false_iff_ne.mpr c27
                                                      have c27b1 : (a0 != 25) = true := bne_iff_ne.mpr c27
                                                      by_cases c28 : a0 = 26
                                                      · rw [if_pos c28] at H
                                                        have c28b0 : (a0 == 26) = true := beq_iff_eq.mpr c28
                                                        have c28b1 : (a0 != 26) = false := bne_eq_false_iff_eq.mpr c28
                                                        clear c28
                                                        obtain rfl := Option.some.inj H
                                                        go_wp2
                                                        go_ret
                                                        exact ⟨by first | rfl | (simp; done) | (simp [*]; done), by repeat (first | exact Drawn0.refl _ | apply Drawn0.step)⟩
                                                      · rw [if_neg c28] at H
                                                        have c28b0 : (a0 == 26) = false := beq_eq_false_iff_ne.mpr c28
                                                        have c28b1 : (a0 != 26) = true := bne_iff_ne.mpr c28
                                                        by_cases c29 : a0 = 27
                                                        · rw [if_pos c29] at H
                                                          have c29b0 : (a0 == 27) = true := beq_iff_eq.mpr c29
                                                          have c29b1 : (a0 != 27) = false := bne_eq_false_iff_eq.mpr c29
                                                          clear c29
                                                          obtain rfl := Option.some.inj H
                                                          go_wp2
                                                          go_ret
                                                          exact ⟨by first | rfl | (simp; done) | (simp [*]; done), by repeat (first | exact Drawn0.refl _ | apply Drawn0.step)⟩
                                                        · rw [if_neg c29] at H
                                                          have c29b0 : (a0 == 27) = false := beq_eq_false_iff_ne.mpr c29
                                                          have c29b1 : (a0 != 27) = true := bne_iff_ne.mpr c29
                                                          by_cases c30 : a0 = 28
                                                          · rw [if_pos c30] at H
                                                            have c30b0 : (a0 == 28) = true := beq_iff_eq.mpr c30
                                                            have c30b1 : (a0 != 28) = false := bne_eq_false_iff_eq.mpr c30
                                                            clear c30
                                                            obtain rfl := Option.some.inj H
                                                            go_wp2
                                                            go_ret
                                                            exact ⟨by first | rfl | (simp; done) | (simp [*]; done), by repeat (first | exact Drawn0.refl _ | apply Drawn0.step)⟩
                                                          · rw [if_neg c30] at H
                                                            have c30b0 : (a0 == 28) = false := beq_eq_false_iff_ne.mpr c30
                                                            have c30b1 : (a0 != 28) = true := bne_iff_ne.mpr c30
                                                            by_cases c31 : a0 = 29
                                                            · rw [if_pos c31] at H
                                                              have c31b0 : (a0 == 29) = true := beq_iff_eq.mpr c31
                                                              have c31b1 : (a0 != 29) = false := bne_eq_false_iff_eq.mpr c31
                                                              clear c31
                                                              obtain rfl := Option.some.inj H
                                                              go_wp2
                                                              go_ret
                                                              exact ⟨by first | rfl | (simp; done) | (simp [*]; done), by repeat (first | exact Drawn0.refl _ | apply Drawn0.step)⟩
                                                            · rw [if_neg c31] at H
                                                              have c31b0 : (a0 == 29) = false := beq_eq_false_iff_ne.mpr c31
                                                              have c31b1 : (a0 != 29) = true := bne_iff_ne.mpr c31
                                                              by_cases c32 : a0 = 32
                                                              · rw [if_pos c32] at H
                                                                have c32b0 : (a0 == 32) = true := beq_iff_eq.mpr c32
                                                                have c32b1 : (a0 != 32) = false := bne_eq_false_iff_eq.mpr c32
                                                                clear c32
                                                                obtain rfl := Option.some.inj H
                                                                go_wp2
                                                                go_ret
                                                                exact ⟨by first | rfl | (simp; done) | (simp [*]; done), by repeat (first | exact Drawn0.refl _ | apply Drawn0.step)⟩
                                                              · rw [if_neg c32] at H
                                                                have c32b0 : (a0 == 32) = false := beq_eq_false_iff_ne.mpr c32
                                                                have c32b1 : (a0 != 32) = true := bne_iff_ne.mpr c32
                                                                by_cases c33 : a0 = 33
                                                                · rw [if_pos c33] at H
                                                                  have c33b0 : (a0 == 33) = true := beq_iff_eq.mpr c33
                                                                  have c33b1 : (a0 != 33) = false := bne_eq_false_iff_eq.mpr c33
                                                                  clear c33
                                                                  obtain rfl := Option.some.inj H
                                                                  go_wp2
                                                                  go_ret
                                                                  exact ⟨by first | rfl | (simp; done) | (simp [*]; done), by repeat (first | exact Drawn0.refl _ | apply Drawn0.step)⟩
                                                                · rw [if_neg c33] at H
                                                                  have c33b0 : (a0 == 33) = false := beq_eq_false_iff_ne.mpr c33
                                                                  have c33b1 : (a0 != 33) = true := bne_iff_ne.mpr c33
                                                                  by_cases c34 : a0 = 34
                                                                  · rw [if_pos c34] at H
                                                                    have c34b0 : (a0 == 34) = true := beq_iff_eq.mpr c34
                                                                    have c34b1 : (a0 != 34) = false := bne_eq_false_iff_eq.mpr c34
                                                                    clear c34
                                                                    obtain rfl := Option.some.inj H
                                                                    go_wp2
                                                                    go_ret
                                                                    exact ⟨by first | rfl | (simp; done) | (simp [*]; done), by repeat (first | exact Drawn0.refl _ | apply Drawn0.step)⟩
                                                                  · rw [if_neg c34] at H
                                                                    have c34b0 : (a0 == 34) = false := beq_eq_false_iff_ne.mpr c34
                                                                    have c34b1 : (a0 != 34) = true := bne_iff_ne.mpr c34
                                                                    by_cases c35 : a0 = 38
                                                                    · rw [if_pos c35] at H
                                                                      have c35b0 : (a0 == 38) = true := beq_iff_eq.mpr c35
                                                                      have c35b1 : (a0 != 38) = false := bne_eq_false_iff_eq.mpr c35
                                                                      clear c35
                                                                      obtain rfl := Option.some.inj H
                                                                      go_wp2
                                                                      go_ret
                                                                      exact ⟨by first | rfl | (simp; done) | (simp [*]; done), by repeat (first | exact Drawn0.refl _ | apply Drawn0.step)⟩
                                                                    · rw [if_neg c35] at H
                                                                      have c35b0 : (a0 == 38) = false := beq_eq_false_iff_ne.mpr c35
                                                                      have c35b1 : (a0 != 38) = true := bne_iff_ne.mpr c35
                                                                      obtain rfl := Option.some.inj H
                                                                      go_wp2
                                                                      go_ret
                                                                      exact ⟨by first | rfl | (simp; done) | (simp [*]; done), by repeat (first | exact Drawn0.refl _ | apply Drawn0.step)⟩

end Go.Proofs.Ytemdfhaceddmpaa.PPrinterTells
