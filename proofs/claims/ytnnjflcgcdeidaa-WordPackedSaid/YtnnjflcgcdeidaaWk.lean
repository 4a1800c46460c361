/- Contracts of the functions on words: each returns the number that its Lean function says and leaves the world as it was. -/
import Derived.Test.YtnnjflcgcdeidaaProg
import Derived.Test.YtnnjflcgcdeidaaWd
import Derived.WalkKit
import Derived.KernelRfl
import Derived.RowKit
import Derived.Lib.Hide
namespace Go.Proofs.Ytnnjflcgcdeidaa.Wk
open Go.RowKit Go.Proofs.Ytnnjflcgcdeidaa.Wd

theorem ret_int {k : IntKind} {a b : Int} (h : a = b) : Ending.returned (.int k a) = .returned (.int k b) := by rw [h]

theorem wrap_any (a : Int) (w : World) : Calls Try.prog 16 #[.int .i64 a] w fun e w' => e = .returned (.int .i64 (wd a)) ∧ w = w' := by
  have h := Go.Lib.hid (wrap_eq a)
  go_enter Try.func16, Try.ntmps16
  go_wp2
  go_ret
  exact ⟨ret_int h.out, rfl⟩

theorem pack_any (a : Int) (w : World) : Calls Try.prog 17 #[.int .i64 a] w fun e w' => e = .returned (.int .i64 (2 * wd a + 1)) ∧ w = w' := by
  have hr := wd_range a
  go_enter Try.func17, Try.ntmps17
  go_wp2_with (go_at_call 16; refine (wrap_any _ _).mono ?_; rintro e w' ⟨rfl, rfl⟩)
  go_ret
  exact ⟨rfl, rfl⟩

theorem wd_ref4 (a : Int) :
    (a.tmod 2147483648 < 0 → 1073741824 ≤ wrap64 (a.tmod 2147483648 + 2147483648) → wrap64 (wrap64 (a.tmod 2147483648 + 2147483648) - 2147483648) = wd a) ∧
    (a.tmod 2147483648 < 0 → wrap64 (a.tmod 2147483648 + 2147483648) < 1073741824 → wrap64 (a.tmod 2147483648 + 2147483648) = wd a) ∧
    (0 ≤ a.tmod 2147483648 → 1073741824 ≤ a.tmod 2147483648 → wrap64 (a.tmod 2147483648 - 2147483648) = wd a) ∧
    (0 ≤ a.tmod 2147483648 → a.tmod 2147483648 < 1073741824 → a.tmod 2147483648 = wd a) := by
  rw [tmod_eq a 2147483648 (by omega)]
  unfold wrap64 wd
  split
  all_goals (refine ⟨?_, ?_, ?_, ?_⟩ <;> (intro _ _; omega))

theorem ref_any (a : Int) (w : World) : Calls Try.prog 18 #[.int .i64 a] w fun e w' => e = .returned (.int .i64 (wd a)) ∧ w = w' := by
  have h := Go.Lib.hid (wd_ref4 a)
  go_enter Try.func18, Try.ntmps18
  go_wp2
  all_goals go_ret
  · exact ⟨ret_int (h.out.1 (by assumption) (by assumption)), rfl⟩
  · exact ⟨ret_int (h.out.2.1 (by assumption) (by assumption)), rfl⟩
  · exact ⟨ret_int (h.out.2.2.1 (by assumption) (by assumption)), rfl⟩
  · exact ⟨ret_int (h.out.2.2.2 (by assumption) (by assumption)), rfl⟩

/-- Whether a number represents a word. -/
def isWord (w : Int) : Bool := decide (w % 2 ≠ 0) && decide (-2147483648 ≤ w) && decide (w < 2147483648)

/-- The word that a number represents; 0: none. -/
def wordOf (w : Int) : Int := if isWord w then w / 2 else 0
theorem wordOf_yes {w : Int} (h : isWord w = true) : w / 2 = wordOf w := by simp [wordOf, h]
theorem wordOf_no {w : Int} (h : isWord w = false) : 0 = wordOf w := by simp [wordOf, h]

theorem ret2 {k : IntKind} {a b : Int} {c d : Bool} (h : a = b) (h' : c = d) : Ending.returned (.tuple #[.int k a, .bool c]) = .returned (.tuple #[.int k b, .bool d]) := by rw [h, h']

theorem unpack_any (a : Int) (w : World) : Calls Try.prog 19 #[.int .i64 a] w fun e w' => e = .returned (.tuple #[.int .i64 (wordOf a), .bool (isWord a)]) ∧ w = w' := by
  have h := Go.Lib.hid (mask1 a)
  by_cases h1 : a % 2 = 0
  · have hw := Go.Lib.hid (show isWord a = false by simp [isWord, h1])
    have hm : (bits BinOp.and IntKind.i64 a 1 == 0) = true := by rw [mask1]; simp [h1]
    clear h1
    go_enter Try.func19, Try.ntmps19
    go_wp2
    go_ret2
    exact ⟨ret2 (wordOf_no hw.out) hw.out.symm, rfl⟩
  · have hm : (bits BinOp.and IntKind.i64 a 1 == 0) = false := by rw [mask1]; simp [h1]
    have h1' := Go.Lib.hid h1
    clear h1
    by_cases h2 : -2147483648 ≤ a
    · by_cases h3 : a < 2147483648
      · have hw := Go.Lib.hid (show isWord a = true by simp [isWord, h1'.out, h2, h3])
        go_enter Try.func19, Try.ntmps19
        go_wp2
        go_ret2
        exact ⟨ret2 (wordOf_yes hw.out) hw.out.symm, rfl⟩
      · have hw := Go.Lib.hid (show isWord a = false by simp [isWord]; omega)
        go_enter Try.func19, Try.ntmps19
        go_wp2
        go_ret2
        exact ⟨ret2 (wordOf_no hw.out) hw.out.symm, rfl⟩
    · have hw := Go.Lib.hid (show isWord a = false by simp [isWord]; omega)
      go_enter Try.func19, Try.ntmps19
      go_wp2
      go_ret2
      exact ⟨ret2 (wordOf_no hw.out) hw.out.symm, rfl⟩

theorem add_any (a b : Int) (w : World) : Calls Try.prog 22 #[.int .i64 a, .int .i64 b] w fun e w' => e = .returned (.int .i64 (wd (wrap64 (a + b)))) ∧ w = w' := by
  go_enter Try.func22, Try.ntmps22
  go_wp2_with (go_at_call 16; refine (wrap_any _ _).mono ?_; rintro e w' ⟨rfl, rfl⟩)
  go_ret
  exact ⟨rfl, rfl⟩

theorem sub_any (a b : Int) (w : World) : Calls Try.prog 23 #[.int .i64 a, .int .i64 b] w fun e w' => e = .returned (.int .i64 (wd (wrap64 (a - b)))) ∧ w = w' := by
  go_enter Try.func23, Try.ntmps23
  go_wp2_with (go_at_call 16; refine (wrap_any _ _).mono ?_; rintro e w' ⟨rfl, rfl⟩)
  go_ret
  exact ⟨rfl, rfl⟩

theorem mul_any (a b : Int) (w : World) : Calls Try.prog 24 #[.int .i64 a, .int .i64 b] w fun e w' => e = .returned (.int .i64 (wd (wrap64 (wd a * wd b)))) ∧ w = w' := by
  go_enter Try.func24, Try.ntmps24
  go_wp2_with (go_at_call 16; refine (wrap_any _ _).mono ?_; rintro e w' ⟨rfl, rfl⟩)
  go_ret
  exact ⟨rfl, rfl⟩

theorem div_no (a b : Int) (w : World) (h : wd b = 0) : Calls Try.prog 25 #[.int .i64 a, .int .i64 b] w fun e w' => e = .returned (.tuple #[.int .i64 0, .int .i64 1]) ∧ w = w' := by
  have h1 : (wd b == 0) = true := by simp [h]
  clear h
  go_enter Try.func25, Try.ntmps25
  go_wp2_with (go_at_call 16; refine (wrap_any _ _).mono ?_; rintro e w' ⟨rfl, rfl⟩)
  go_ret2
  exact ⟨rfl, rfl⟩

theorem div_yes (a b : Int) (w : World) (h : wd b ≠ 0) : Calls Try.prog 25 #[.int .i64 a, .int .i64 b] w fun e w' => e = .returned (.tuple #[.int .i64 (wd (wrap64 ((wd a).tdiv (wd b)))), .int .i64 0]) ∧ w = w' := by
  have h1 : (wd b == 0) = false := by simp [h]
  go_enter Try.func25, Try.ntmps25
  go_wp2_with (go_at_call 16; refine (wrap_any _ _).mono ?_; rintro e w' ⟨rfl, rfl⟩)
  go_ret2
  exact ⟨rfl, rfl⟩

theorem mod_no (a b : Int) (w : World) (h : wd b = 0) : Calls Try.prog 26 #[.int .i64 a, .int .i64 b] w fun e w' => e = .returned (.tuple #[.int .i64 0, .int .i64 1]) ∧ w = w' := by
  have h1 : (wd b == 0) = true := by simp [h]
  clear h
  go_enter Try.func26, Try.ntmps26
  go_wp2_with (go_at_call 16; refine (wrap_any _ _).mono ?_; rintro e w' ⟨rfl, rfl⟩)
  go_ret2
  exact ⟨rfl, rfl⟩

theorem mod_yes (a b : Int) (w : World) (h : wd b ≠ 0) : Calls Try.prog 26 #[.int .i64 a, .int .i64 b] w fun e w' => e = .returned (.tuple #[.int .i64 ((wd a).tmod (wd b)), .int .i64 0]) ∧ w = w' := by
  have h1 : (wd b == 0) = false := by simp [h]
  go_enter Try.func26, Try.ntmps26
  go_wp2_with (go_at_call 16; refine (wrap_any _ _).mono ?_; rintro e w' ⟨rfl, rfl⟩)
  go_ret2
  exact ⟨rfl, rfl⟩

theorem tdiv_bd (x y : Int) (hx : -1073741824 ≤ x) (hx' : x ≤ 1073741823) : -1073741824 ≤ x.tdiv y ∧ x.tdiv y ≤ 1073741824 := by
  have h1 := Int.natAbs_tdiv x y
  have h2 : (x.tdiv y).natAbs ≤ x.natAbs := by rw [h1]; exact Nat.div_le_self _ _
  omega
theorem tmod_bd (x y : Int) (hx : -1073741824 ≤ x) (hx' : x ≤ 1073741823) : -1073741824 ≤ x.tmod y ∧ x.tmod y ≤ 1073741824 := by
  have h1 := Int.natAbs_tmod x y
  have h2 : (x.tmod y).natAbs ≤ x.natAbs := by rw [h1]; exact Nat.mod_le _ _
  omega

theorem quot_any (x y : Int) (w : World) (hx1 : -1073741824 ≤ x) (hx2 : x ≤ 1073741823) (hy1 : -1073741824 ≤ y) (hy2 : y ≤ 1073741823) (h0 : (y == 0) = false) :
    Calls Try.prog 27 #[.int .i64 x, .int .i64 y] w fun e w' => e = .returned (.int .i64 (x.tdiv y)) ∧ w = w' := by
  have hd := Go.Lib.hid (tdiv_bd x y hx1 hx2)
  have he : Hid (0 ≤ x → x / y = x.tdiv y) := Go.Lib.hid (fun h => (Int.tdiv_eq_ediv_of_nonneg h).symm)
  have hy0 := Go.Lib.hid h0
  clear h0
  have k0 : ((-y) == 0) = false := by have := hy0.out; simp at this ⊢; exact this
  have k1 : (y == 0) = false := hy0.out
  by_cases c1 : x < 0
  · have d1 : decide (x < 0) = true := decide_eq_true c1
    by_cases c2 : y < 0
    · have d2 : decide (y < 0) = true := decide_eq_true c2
      go_enter Try.func27, Try.ntmps27
      go_wp2
      go_ret
      exact ⟨ret_int (by have := hd.out; unfold wrap64; omega), rfl⟩
    · have d2 : decide (y < 0) = false := decide_eq_false c2
      have c3 : 0 < y := by
        have := hy0.out
        simp at this
        omega
      clear c2
      go_enter Try.func27, Try.ntmps27
      go_wp2
      go_ret
      exact ⟨ret_int (by have := hd.out; unfold wrap64; omega), rfl⟩
  · have d1 : decide (x < 0) = false := decide_eq_false c1
    by_cases c2 : y < 0
    · have d2 : decide (y < 0) = true := decide_eq_true c2
      go_enter Try.func27, Try.ntmps27
      go_wp2
      go_ret
      exact ⟨ret_int (by have := hd.out; unfold wrap64; omega), rfl⟩
    · have d2 : decide (y < 0) = false := decide_eq_false c2
      have c3 : 0 < y := by
        have := hy0.out
        simp at this
        omega
      clear c2
      go_enter Try.func27, Try.ntmps27
      go_wp2
      go_ret
      exact ⟨ret_int (by have := he.out (by omega); omega), rfl⟩

theorem tmod2 (b : Int) : (b.tmod 2 == 0) = decide (b % 2 = 0) := by
  rw [tmod_eq b 2 (by omega), Bool.eq_iff_iff]
  simp
  split <;> omega

/-- The law of packed words. -/
theorem packed_law (a b : Int) (w : World) (_hb : -9223372036854775808 ≤ b ∧ b ≤ 9223372036854775807) : Calls Try.prog 4 #[.int .i64 a, .int .i64 b] w fun e w' => e = .returned (.bool true) ∧ w = w' := by
  have h5 : (2 * wd 5 + 1 == 11) = true := by decide
  have h6 : (2 * wd 5 + 1 != 11) = false := by decide
  obtain ⟨hr, hr'⟩ := wd_range a
  have f1 : isWord (2 * wd a + 1) = true := by simp [isWord]; omega
  have f2 : (wordOf (2 * wd a + 1) == wd a) = true := by rw [← wordOf_yes f1]; simp; omega
  have ht := tmod2 b
  by_cases h1 : isWord b = true
  · have h2 : b % 2 ≠ 0 ∧ -2147483648 ≤ b ∧ b < 2147483648 := by simpa [isWord, and_assoc] using h1
    have g1 : (b.tmod 2 == 0) = false := by rw [ht]; simp; omega
    have g1' : (b.tmod 2 != 0) = true := by unfold bne; rw [g1]; rfl
    have g2 : -2147483648 ≤ b := h2.2.1
    have g3 : b ≤ 2147483647 := by omega
    have g4 : (wrap64 (wrap64 (2 * wordOf b) + 1) == b) = true := by
      rw [← wordOf_yes h1]
      unfold wrap64
      simp
      omega
    clear ht h2
    go_enter Try.func4, Try.ntmps4
    go_wp2_with (first | (go_at_call 17; refine (pack_any _ _).mono ?_; rintro e w' ⟨rfl, rfl⟩) | (go_at_call 18; refine (ref_any _ _).mono ?_; rintro e w' ⟨rfl, rfl⟩) | (go_at_call 19; refine (unpack_any _ _).mono ?_; rintro e w' ⟨rfl, rfl⟩))
    go_ret
    exact ⟨rfl, rfl⟩
  · have h1' : isWord b = false := by simpa using h1
    clear h1
    have g0 : (wordOf b == 0) = true := by rw [← wordOf_no h1']; rfl
    by_cases h2 : b % 2 = 0
    · have g1 : (b.tmod 2 == 0) = true := by rw [ht]; simp; omega
      have g1' : (b.tmod 2 != 0) = false := by unfold bne; rw [g1]; rfl
      clear ht h2
      go_enter Try.func4, Try.ntmps4
      go_wp2_with (first | (go_at_call 17; refine (pack_any _ _).mono ?_; rintro e w' ⟨rfl, rfl⟩) | (go_at_call 18; refine (ref_any _ _).mono ?_; rintro e w' ⟨rfl, rfl⟩) | (go_at_call 19; refine (unpack_any _ _).mono ?_; rintro e w' ⟨rfl, rfl⟩))
      go_ret
      exact ⟨rfl, rfl⟩
    · have g1 : (b.tmod 2 == 0) = false := by rw [ht]; simp; omega
      have g1' : (b.tmod 2 != 0) = true := by unfold bne; rw [g1]; rfl
      by_cases h3 : -2147483648 ≤ b
      · have h4 : ¬ b ≤ 2147483647 := by
          intro h4
          have : isWord b = true := by simp [isWord, h2, h3]; omega
          rw [this] at h1'
          cases h1'
        have g7 : (b % 2 == 0) = false := by simp; omega
        have g8 : (b % 2 != 0) = true := by simp; omega
        clear ht h2
        go_enter Try.func4, Try.ntmps4
        go_wp2_with (first | (go_at_call 17; refine (pack_any _ _).mono ?_; rintro e w' ⟨rfl, rfl⟩) | (go_at_call 18; refine (ref_any _ _).mono ?_; rintro e w' ⟨rfl, rfl⟩) | (go_at_call 19; refine (unpack_any _ _).mono ?_; rintro e w' ⟨rfl, rfl⟩))
        go_ret
        exact ⟨rfl, rfl⟩
      · clear ht h2
        go_enter Try.func4, Try.ntmps4
        go_wp2_with (first | (go_at_call 17; refine (pack_any _ _).mono ?_; rintro e w' ⟨rfl, rfl⟩) | (go_at_call 18; refine (ref_any _ _).mono ?_; rintro e w' ⟨rfl, rfl⟩) | (go_at_call 19; refine (unpack_any _ _).mono ?_; rintro e w' ⟨rfl, rfl⟩))
        go_ret
        exact ⟨rfl, rfl⟩

theorem ar_add (a b : Int) : wd (wrap64 (a + b)) = wd (wrap64 (wd a + wd b)) := by
  unfold wd wrap64; omega
theorem ar_sub (a b : Int) : wd (wrap64 (a - b)) = wd (wrap64 (wd a - wd b)) := by
  unfold wd wrap64; omega

/-- The law of the arithmetic of words. -/
theorem arith_law (a b : Int) (w : World) : Calls Try.prog 6 #[.int .i64 a, .int .i64 b] w fun e w' => e = .returned (.bool true) ∧ w = w' := by
  have h5 : (wd 1073741824 == -1073741824) = true := by decide
  have h6 : (wd 1073741824 != -1073741824) = false := by decide
  obtain ⟨ha, ha'⟩ := wd_range a
  obtain ⟨hb, hb'⟩ := wd_range b
  have e1 : (wd (wrap64 (a + b)) == wd (wd a + wd b)) = true := by rw [beq_iff_eq, ar_add]; congr 1; unfold wrap64; omega
  have e2 : (wd (wrap64 (a - b)) == wd (wd a - wd b)) = true := by rw [beq_iff_eq, ar_sub]; congr 1; unfold wrap64; omega
  have e1' : (wd (wrap64 (a + b)) != wd (wd a + wd b)) = false := by unfold bne; rw [e1]; rfl
  have e2' : (wd (wrap64 (a - b)) != wd (wd a - wd b)) = false := by unfold bne; rw [e2]; rfl
  by_cases h : wd b = 0
  · have h0 := Go.Lib.hid h
    have h1 : (wd b == 0) = true := by simp [h]
    clear h
    go_enter Try.func6, Try.ntmps6
    go_wp2_with (first | (go_at_call 16; refine (wrap_any _ _).mono ?_; rintro e w' ⟨rfl, rfl⟩) | (go_at_call 18; refine (ref_any _ _).mono ?_; rintro e w' ⟨rfl, rfl⟩) | (go_at_call 22; refine (add_any _ _ _).mono ?_; rintro e w' ⟨rfl, rfl⟩) | (go_at_call 23; refine (sub_any _ _ _).mono ?_; rintro e w' ⟨rfl, rfl⟩) | (go_at_call 24; refine (mul_any _ _ _).mono ?_; rintro e w' ⟨rfl, rfl⟩) | (go_at_call 25; refine (div_no _ _ _ h0.out).mono ?_; rintro e w' ⟨rfl, rfl⟩) | (go_at_call 26; refine (mod_no _ _ _ h0.out).mono ?_; rintro e w' ⟨rfl, rfl⟩) | (go_at_call 27; refine (quot_any _ _ _ ha ha' hb hb' h1).mono ?_; rintro e w' ⟨rfl, rfl⟩))
    go_ret
    exact ⟨rfl, rfl⟩
  · have h0 : Hid (wd b ≠ 0) := Go.Lib.hid h
    have h1 : (wd b == 0) = false := by simp [h]
    obtain ⟨t1, t2⟩ := tdiv_bd (wd a) (wd b) ha ha'
    have m := tmod_bd (wd a) (wd b) ha ha'
    have k1 : wrap64 ((wd a).tdiv (wd b)) = (wd a).tdiv (wd b) := by unfold wrap64; omega
    have k2 : (wd a).tmod (wd b) = wd a - (wd a).tdiv (wd b) * wd b := by
      have h2 := Int.mul_tdiv_add_tmod (wd a) (wd b)
      have c : wd b * (wd a).tdiv (wd b) = (wd a).tdiv (wd b) * wd b := Int.mul_comm _ _
      omega
    have e3 : (wd (wrap64 ((wd a).tdiv (wd b))) == wd ((wd a).tdiv (wd b))) = true := by rw [k1]; simp
    have e4 : ((wd a).tmod (wd b) == wrap64 (wd a - wrap64 ((wd a).tdiv (wd b) * wd b))) = true := by
      have k3 : wrap64 ((wd a).tdiv (wd b) * wd b) = (wd a).tdiv (wd b) * wd b := by unfold wrap64; omega
      rw [k3, ← k2, beq_iff_eq]
      unfold wrap64; omega
    clear k1 k2 m
    clear h
    go_enter Try.func6, Try.ntmps6
    go_wp2_with (first | (go_at_call 16; refine (wrap_any _ _).mono ?_; rintro e w' ⟨rfl, rfl⟩) | (go_at_call 18; refine (ref_any _ _).mono ?_; rintro e w' ⟨rfl, rfl⟩) | (go_at_call 22; refine (add_any _ _ _).mono ?_; rintro e w' ⟨rfl, rfl⟩) | (go_at_call 23; refine (sub_any _ _ _).mono ?_; rintro e w' ⟨rfl, rfl⟩) | (go_at_call 24; refine (mul_any _ _ _).mono ?_; rintro e w' ⟨rfl, rfl⟩) | (go_at_call 25; refine (div_yes _ _ _ h0.out).mono ?_; rintro e w' ⟨rfl, rfl⟩) | (go_at_call 26; refine (mod_yes _ _ _ h0.out).mono ?_; rintro e w' ⟨rfl, rfl⟩) | (go_at_call 27; refine (quot_any _ _ _ ha ha' hb hb' h1).mono ?_; rintro e w' ⟨rfl, rfl⟩))
    go_ret
    exact ⟨by first | rfl | simp [e4], rfl⟩


end Go.Proofs.Ytnnjflcgcdeidaa.Wk
