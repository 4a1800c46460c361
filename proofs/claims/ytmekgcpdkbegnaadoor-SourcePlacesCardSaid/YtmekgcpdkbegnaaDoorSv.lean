import Derived.Test.YtmekgcpdkbegnaaDoorSu
namespace Go.Proofs.YtmekgcpdkbegnaaDoor.Sp
open Go.RowKit
set_option linter.unusedVariables false
set_option linter.unusedSimpArgs false

theorem onto {w w1 w2 : World} (h : Hid (Below w.heap.size w w1)) (hb : Below w1.heap.size w1 w2) : Hid (Below w.heap.size w w2) := Go.Lib.hid (h.out.trans (hb.mono h.out.size))

set_option maxHeartbeats 4000000 in
set_option maxRecDepth 100000 in
theorem law_bad (s : ByteArray) (k line col : Int) (w : World) (hz : s.size < 9223372036854775807) (hc : ¬ chk s = 0) :
    Calls Tryd.prog 3 #[.string s, .int .i64 k, .int .i64 line, .int .i64 col] w fun e w' => e = .returned (.bool true) ∧ Below w.heap.size w w' := by
  generalize hcc : chk s = c at hc
  have HC := Go.Lib.hid (hcc ▸ hc : ¬ chk s = 0)
  have HCC := Go.Lib.hid hcc
  have h0 : (c == 0) = false := beq_eq_false_iff_ne.mpr hc
  have h1 : (c != 0) = true := bne_iff_ne.mpr hc
  have HZ := Go.Lib.hid hz
  clear hcc hc hz
  go_enter Tryd.func3, Tryd.ntmps3
  go_wp2_with fail
  refine (Place_ok ⟨#[97, 98, 10, 99, 100]⟩ 4 w (by decide) chk_two (by decide)).mono ?_
  rintro e w1 ⟨rfl, hb1⟩
  rw [place_two]
  have HB1 := Go.Lib.hid hb1
  clear hb1
  go_wp2_with fail
  refine (error_calls s w1 HZ.out).mono ?_
  rintro e w2 ⟨rfl, hb2⟩
  rw [HCC.out]
  have HB2 := onto HB1 hb2
  clear hb2
  go_wp2_with fail
  refine (Place_bad s k w2 HZ.out HC.out).mono ?_
  rintro e w3 ⟨rfl, hb3⟩
  rw [HCC.out]
  have HB3 := onto HB2 hb3
  clear hb3
  go_wp2_with fail
  refine (Offset_bad s line col w3 HZ.out HC.out).mono ?_
  rintro e w4 ⟨rfl, hb4⟩
  rw [HCC.out]
  have HB4 := onto HB3 hb4
  clear hb4
  go_wp2_with fail
  refine (check_calls s w4 HZ.out).mono ?_
  rintro e w5 ⟨rfl, hb5⟩
  rw [HCC.out]
  have HB5 := onto HB4 hb5
  clear hb5
  go_wp2_with fail
  go_ret
  exact ⟨rfl, HB5.out⟩

set_option maxHeartbeats 4000000 in
set_option maxRecDepth 100000 in
theorem law_ok (s : ByteArray) (k line col : Int) (w : World) (hm : MaxIs w) (hz : s.size ≤ 8192) (hc : chk s = 0) :
    Calls Tryd.prog 3 #[.string s, .int .i64 k, .int .i64 line, .int .i64 col] w fun e w' => e = .returned (.bool true) ∧ Below w.heap.size w w' := by
  have HC := Go.Lib.hid hc
  have HZ := Go.Lib.hid hz
  have HM := Go.Lib.hid hm
  clear hc hz hm
  go_enter Tryd.func3, Tryd.ntmps3
  go_wp2_with fail
  refine (Place_ok ⟨#[97, 98, 10, 99, 100]⟩ 4 w (by decide) chk_two (by decide)).mono ?_
  rintro e w1 ⟨rfl, hb1⟩
  rw [place_two]
  have HB1 := Go.Lib.hid hb1
  clear hb1
  go_wp2_with fail
  refine (error_calls s w1 (by have := HZ.out; omega)).mono ?_
  rintro e w2 ⟨rfl, hb2⟩
  rw [HC.out]
  have HB2 := onto HB1 hb2
  clear hb2
  go_wp2_with fail
  by_cases hk : k < 0 ∨ (s.size : Int) < k
  · refine (Place_range s k w2 (by have := HZ.out; omega) HC.out hk).mono ?_
    rintro e w3 ⟨rfl, hb3⟩
    have HB3 := onto HB2 hb3
    clear hb3
    have HK := Go.Lib.hid hk
    clear hk
    go_wp2_with fail
    refine (Offset_all s line col w3 (HM.out.lift HB3.out) HC.out HZ.out).mono ?_
    rintro e w4 ⟨ho, hb4⟩
    have HB4 := onto HB3 hb4
    clear hb4
    rcases ho with ⟨i, hi, hpi, rfl⟩ | ⟨rfl, hno⟩
    · have HI : Hid (i ≤ s.size ∧ plN s i = (line, col)) := Go.Lib.hid ⟨hi, hpi⟩
      clear hi hpi
      go_wp2_with fail
      refine (check_calls s w4 (by have := HZ.out; omega)).mono ?_
      rintro e w5 ⟨rfl, hb5⟩
      rw [HC.out]
      have HB5 := onto HB4 hb5
      clear hb5
      by_cases hk0 : k < 0
      · have hk0_b : decide (k < 0) = true := decide_eq_true hk0
        clear hk0
        go_wp2_with fail
        refine (offset_calls s line col w5 HZ.out).mono ?_
        rintro e w9 ⟨hq, hb9⟩
        have HB9 := onto HB5 hb9
        clear hb9
        rcases hq with ⟨i2, hi2, hp2, rfl⟩ | ⟨rfl, hno2⟩
        · obtain rfl : i = i2 := pl_inj s i i2 (HI.out.2.trans hp2.symm)
          clear hp2 hi2
          have hneg : decide ((i : Int) < 0) = false := decide_eq_false (by omega)
          go_wp2_with fail
          go_ret
          exact ⟨rfl, HB9.out⟩
        · exact absurd HI.out.2 (hno2 i HI.out.1)
      · have hk0_b : decide (k < 0) = false := decide_eq_false hk0
        have hk1_b : decide ((s.size : Int) < k) = true := decide_eq_true (by have := HK.out; omega)
        clear hk0
        go_wp2_with fail
        refine (offset_calls s line col w5 HZ.out).mono ?_
        rintro e w9 ⟨hq, hb9⟩
        have HB9 := onto HB5 hb9
        clear hb9
        rcases hq with ⟨i2, hi2, hp2, rfl⟩ | ⟨rfl, hno2⟩
        · obtain rfl : i = i2 := pl_inj s i i2 (HI.out.2.trans hp2.symm)
          clear hp2 hi2
          have hneg : decide ((i : Int) < 0) = false := decide_eq_false (by omega)
          go_wp2_with fail
          go_ret
          exact ⟨rfl, HB9.out⟩
        · exact absurd HI.out.2 (hno2 i HI.out.1)
    · have HN2 := Go.Lib.hid hno
      clear hno
      go_wp2_with fail
      refine (check_calls s w4 (by have := HZ.out; omega)).mono ?_
      rintro e w5 ⟨rfl, hb5⟩
      rw [HC.out]
      have HB5 := onto HB4 hb5
      clear hb5
      by_cases hk0 : k < 0
      · have hk0_b : decide (k < 0) = true := decide_eq_true hk0
        clear hk0
        go_wp2_with fail
        refine (offset_calls s line col w5 HZ.out).mono ?_
        rintro e w9 ⟨hq, hb9⟩
        have HB9 := onto HB5 hb9
        clear hb9
        rcases hq with ⟨i2, hi2, hp2, rfl⟩ | ⟨rfl, hno2⟩
        · exact absurd hp2 (HN2.out i2 hi2)
        · clear hno2
          go_wp2_with fail
          go_ret
          exact ⟨rfl, HB9.out⟩
      · have hk0_b : decide (k < 0) = false := decide_eq_false hk0
        have hk1_b : decide ((s.size : Int) < k) = true := decide_eq_true (by have := HK.out; omega)
        clear hk0
        go_wp2_with fail
        refine (offset_calls s line col w5 HZ.out).mono ?_
        rintro e w9 ⟨hq, hb9⟩
        have HB9 := onto HB5 hb9
        clear hb9
        rcases hq with ⟨i2, hi2, hp2, rfl⟩ | ⟨rfl, hno2⟩
        · exact absurd hp2 (HN2.out i2 hi2)
        · clear hno2
          go_wp2_with fail
          go_ret
          exact ⟨rfl, HB9.out⟩
  · obtain ⟨n, rfl⟩ : ∃ n : Nat, k = n := ⟨k.toNat, by omega⟩
    have hn : n ≤ s.size := by omega
    refine (Place_ok s n w2 hn HC.out HZ.out).mono ?_
    rintro e w3 ⟨rfl, hb3⟩
    have HB3 := onto HB2 hb3
    clear hb3
    have HN := Go.Lib.hid hn
    have hk0 : decide ((n : Int) < 0) = false := decide_eq_false (by omega)
    have hk1 : decide ((s.size : Int) < (n : Int)) = false := decide_eq_false (by omega)
    have hk2 : decide (s.size < n) = false := decide_eq_false (by omega)
    clear hk hn
    generalize hp : plN s n = p
    have HP := Go.Lib.hid hp
    clear hp
    obtain ⟨a, b⟩ := p
    go_wp2_with fail
    refine (Offset_all s line col w3 (HM.out.lift HB3.out) HC.out HZ.out).mono ?_
    rintro e w4 ⟨ho, hb4⟩
    have HB4 := onto HB3 hb4
    clear hb4
    rcases ho with ⟨i, hi, hpi, rfl⟩ | ⟨rfl, hno⟩
    · have HI : Hid (i ≤ s.size ∧ plN s i = (line, col)) := Go.Lib.hid ⟨hi, hpi⟩
      clear hi hpi
      go_wp2_with fail
      refine (check_calls s w4 (by have := HZ.out; omega)).mono ?_
      rintro e w5 ⟨rfl, hb5⟩
      rw [HC.out]
      have HB5 := onto HB4 hb5
      clear hb5
      go_wp2_with fail
      refine (place_calls s n w5 HN.out HZ.out).mono ?_
      rintro e w6 ⟨rfl, hb6⟩
      rw [HP.out]
      have HB6 := onto HB5 hb6
      clear hb6
      go_wp2_with fail
      refine (offset_calls s line col w6 HZ.out).mono ?_
      rintro e w9 ⟨hq, hb9⟩
      have HB9 := onto HB6 hb9
      clear hb9
      rcases hq with ⟨i2, hi2, hp2, rfl⟩ | ⟨rfl, hno2⟩
      · obtain rfl : i = i2 := pl_inj s i i2 (HI.out.2.trans hp2.symm)
        clear hp2 hi2
        have hneg : decide ((i : Int) < 0) = false := decide_eq_false (by omega)
        go_wp2_with fail
        go_ret
        exact ⟨rfl, HB9.out⟩
      · exact absurd HI.out.2 (hno2 i HI.out.1)
    · have HN2 := Go.Lib.hid hno
      clear hno
      go_wp2_with fail
      refine (check_calls s w4 (by have := HZ.out; omega)).mono ?_
      rintro e w5 ⟨rfl, hb5⟩
      rw [HC.out]
      have HB5 := onto HB4 hb5
      clear hb5
      go_wp2_with fail
      refine (place_calls s n w5 HN.out HZ.out).mono ?_
      rintro e w6 ⟨rfl, hb6⟩
      rw [HP.out]
      have HB6 := onto HB5 hb6
      clear hb6
      go_wp2_with fail
      refine (offset_calls s line col w6 HZ.out).mono ?_
      rintro e w9 ⟨hq, hb9⟩
      have HB9 := onto HB6 hb9
      clear hb9
      rcases hq with ⟨i2, hi2, hp2, rfl⟩ | ⟨rfl, hno2⟩
      · exact absurd hp2 (HN2.out i2 hi2)
      · clear hno2
        go_wp2_with fail
        go_ret
        exact ⟨rfl, HB9.out⟩
end Go.Proofs.YtmekgcpdkbegnaaDoor.Sp
