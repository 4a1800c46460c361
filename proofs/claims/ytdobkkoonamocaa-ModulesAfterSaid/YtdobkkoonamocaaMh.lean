import Derived.Test.YtdobkkoonamocaaMf
import Derived.Test.YtdobkkoonamocaaMg
import Derived.Lib.SliceRun
namespace Go.Proofs.Ytdobkkoonamocaa.Mo
open Go.RowKit Go.Proofs.Ytdobkkoonamocaa.PModulesOrdered Go.Proofs.YtdobkkoonamocaaW.PrintWords Go.Proofs.YtdobkkoonamocaaW.PrintLast Go.Proofs.YtdobkkoonamocaaW.PrintMore
set_option linter.unusedVariables false
set_option linter.unusedSimpArgs false

theorem q24 (w : World) (a : Option Addr) (n c n' c' : Nat) : (binOp .eql 24 (.slice a n c) (.slice none n' c')).run Try.prog w = .ok (.bool a.isNone) w := Lib.run_eql_slice_nil w _ _ a n c n' c' Try.underlying24
/-- The law's first call. -/
theorem first_calls (w : World) (n1 n2 : Nat) (h1 : n1 = w.heap.size + 1) (h2 : n2 = w.heap.size + 1 + 1) : Calls Try.prog 6 #[.slice (some ⟨w.heap.size, 0, none⟩) 2 2, .slice (some ⟨n2, 0, none⟩) 2 2] (((w.alloc (.cells #[.string ⟨#[65]⟩, .string ⟨#[66]⟩] 9)).alloc (.cells #[.string ⟨#[66]⟩] 9)).alloc (.cells #[.slice (some ⟨n1, 0, none⟩) 1 1, .slice none 0 0] 22)) fun e w' => (∃ A c, e = .returned (.tuple #[.slice A 2 c, .int .i64 0]) ∧ Kd.C (Kd.int .i64) w' A 2 [1, 0] ∧ 2 ≤ c) ∧ Below w.heap.size w w' := by
  subst h1 h2
  obtain ⟨a1, a2, hb⟩ := first_args w
  generalize ((w.alloc _).alloc _).alloc _ = W at *
  refine (order_ok N2 I2 _ _ 2 2 W (by decide) rfl (by decide) a1 (Nat.le_refl _) a2 (Nat.le_refl _) err2).mono ?_
  rintro e w' ⟨h, hb'⟩
  refine ⟨?_, hb.trans (hb'.mono hb.size)⟩
  rcases h with ⟨out, A, c, ho, _, rfl, hown⟩ | ⟨ho, _⟩
  · rw [ord2] at ho
    obtain rfl : out = [1, 0] := (Option.some.inj ho).symm
    exact ⟨A, c, rfl, own_CI hown, own_cap hown⟩
  · rw [ord2] at ho; cases ho

/-- With an error. -/
theorem law_err (N : List ByteArray) (I : List (List ByteArray)) (A0 A1 : Option Addr) (c0 c1 : Nat) (w : World) (hN : N.length < LIM) (hI : I.length < LIM) (hl : ∀ l ∈ I, l.length < LIM) (hr0 : Kd.C Kd.string w A0 N.length N) (hc0 : N.length ≤ c0) (hr1 : Kd.C (Kd.slice 9 Kd.string) w A1 I.length I) (hc1 : I.length ≤ c1) (he : ¬ mErr N I = 0) :
    Calls Try.prog 3 #[.slice A0 N.length c0, .slice A1 I.length c1] w fun e w' => e = .returned (.bool true) ∧ Below w.heap.size w w' := by
  have HR0 := Go.Lib.hid hr0
  have HR1 := Go.Lib.hid hr1
  have HL := Go.Lib.hid hl
  have h1 := Go.Lib.hid (fun (W : World) (hb : Below w.heap.size w W) => order_err N I A0 A1 c0 c1 W hl (Kd.C_below HR0.out hb) hc0 (Kd.C_below HR1.out hb) hc1 he)
  have h2 := Go.Lib.hid (fun (W : World) (hb : Below w.heap.size w W) => error_calls N I A0 A1 c0 c1 W hN hI hl (Kd.C_below HR0.out hb) hc0 (Kd.C_below HR1.out hb) hc1)
  have h3 := Go.Lib.hid (fun (W : World) (hb : Below w.heap.size w W) => check_calls N I A0 A1 c0 c1 W hl (Kd.C_below HR0.out hb) hc0 (Kd.C_below HR1.out hb) hc1)
  generalize mErr N I = er at *
  have e0 : (er == 0) = false := beq_eq_false_iff_ne.mpr he
  have e1 : (er != 0) = true := bne_iff_ne.mpr he
  have e2 : (er == er) = true := beq_self_eq_true er
  have e3 : (er != er) = false := by simp
  clear hr0 hr1 hl he hN hI
  have Q24 := q24
  go_enter Try.func3, Try.ntmps3
  go_wp2_with fail
  refine (first_calls w _ _ rfl rfl).mono ?_
  rintro e w1 ⟨⟨A, c, rfl, hA, hc⟩, hb1⟩
  have HB1 := Go.Lib.hid hb1
  clear hb1
  go_wp2_with fail
  refine (equalI_calls [1, 0] (by decide) A (some ⟨w1.heap.size, 0, none⟩) c 2 _ (Kd.C_below hA (below_alloc (Below.refl _ _) _)) hc (lit_I (blk_new _ _) rfl (by decide)) (Nat.le_refl _)).mono ?_
  rintro e w2 ⟨rfl, hd2⟩
  have HB2 := Go.Lib.hid ((below_alloc HB1.out _).trans (hd2.below.mono (below_alloc HB1.out _).size))
  clear hd2
  go_wp2_with fail
  refine (h1.out w2 HB2.out).mono ?_
  rintro e w3 ⟨rfl, hb3⟩
  have HB3 := Go.Lib.hid (HB2.out.trans (hb3.mono HB2.out.size))
  clear hb3
  go_wp2_with fail
  refine (h2.out w3 HB3.out).mono ?_
  rintro e w4 ⟨rfl, hb4⟩
  have HB4 := Go.Lib.hid (HB3.out.trans (hb4.mono HB3.out.size))
  clear hb4
  go_wp2_with fail
  refine (h3.out w4 HB4.out).mono ?_
  rintro e w5 ⟨rfl, hd5⟩
  have HB5 := Go.Lib.hid (HB4.out.trans (hd5.below.mono HB4.out.size))
  clear hd5
  go_wp2_with fail
  refine (equalI_calls [] (by decide) none none 0 0 _ (Kd.C_nil _ _) (Nat.le_refl _) (Kd.C_nil _ _) (Nat.le_refl _)).mono ?_
  rintro e w6 ⟨rfl, hd6⟩
  have HB6 := Go.Lib.hid (HB5.out.trans (hd6.below.mono HB5.out.size))
  clear hd6
  go_wp2_with fail
  go_ret
  exact ⟨rfl, HB6.out⟩

/-- The order, where there is one. -/
theorem some_calls {N : List ByteArray} {I : List (List ByteArray)} {A0 A1 : Option Addr} {c0 c1 : Nat} {w : World} (he : mErr N I = 0) {out : List Nat} (ho : ord (pOk (nm N) (im I)) (ltN N) N.length N.length [] = some out) (hl : ∀ l ∈ I, l.length < LIM) (hr0 : Kd.C Kd.string w A0 N.length N) (hc0 : N.length ≤ c0) (hr1 : Kd.C (Kd.slice 9 Kd.string) w A1 I.length I) (hc1 : I.length ≤ c1) :
    Calls Try.prog 6 #[.slice A0 N.length c0, .slice A1 I.length c1] w fun e w' => (∃ A c, e = .returned (.tuple #[.slice A (oi out).length c, .int .i64 0]) ∧ Kd.C (Kd.int .i64) w' A (oi out).length (oi out) ∧ (oi out).length ≤ c ∧ (oi out).length = N.length) ∧ Below w.heap.size w w' := by
  obtain ⟨e1, e2, _, _⟩ := err_zero he
  refine (order_ok N I A0 A1 c0 c1 w e1 e2 hl hr0 hc0 hr1 hc1 he).mono ?_
  rintro e w' ⟨h, hb⟩
  refine ⟨?_, hb⟩
  rcases h with ⟨out', A, c, h1, h2, rfl, h3⟩ | ⟨h1, _⟩
  · rw [ho] at h1
    obtain rfl := Option.some.inj h1
    exact ⟨A, c, rfl, own_CI h3, own_cap h3, by rw [oi_length, h2]⟩
  · rw [ho] at h1; cases h1
theorem none_calls {N : List ByteArray} {I : List (List ByteArray)} {A0 A1 : Option Addr} {c0 c1 : Nat} {w : World} (he : mErr N I = 0) (ho : ord (pOk (nm N) (im I)) (ltN N) N.length N.length [] = none) (hl : ∀ l ∈ I, l.length < LIM) (hr0 : Kd.C Kd.string w A0 N.length N) (hc0 : N.length ≤ c0) (hr1 : Kd.C (Kd.slice 9 Kd.string) w A1 I.length I) (hc1 : I.length ≤ c1) :
    Calls Try.prog 6 #[.slice A0 N.length c0, .slice A1 I.length c1] w fun e w' => e = .returned (.tuple #[.slice none 0 0, .int .i64 8]) ∧ Below w.heap.size w w' := by
  obtain ⟨e1, e2, _, _⟩ := err_zero he
  refine (order_ok N I A0 A1 c0 c1 w e1 e2 hl hr0 hc0 hr1 hc1 he).mono ?_
  rintro e w' ⟨h, hb⟩
  refine ⟨?_, hb⟩
  rcases h with ⟨out', A, c, h1, h2, rfl, h3⟩ | ⟨h1, rfl⟩
  · rw [ho] at h1; cases h1
  · rfl
theorem some_ref {N : List ByteArray} {I : List (List ByteArray)} {A0 A1 : Option Addr} {c0 c1 : Nat} {w : World} (he : mErr N I = 0) {out : List Nat} (ho : ord (pOk (nm N) (im I)) (ltN N) N.length N.length [] = some out) (hl : ∀ l ∈ I, l.length < LIM) (hr0 : Kd.C Kd.string w A0 N.length N) (hc0 : N.length ≤ c0) (hr1 : Kd.C (Kd.slice 9 Kd.string) w A1 I.length I) (hc1 : I.length ≤ c1) :
    Calls Try.prog 10 #[.slice A0 N.length c0, .slice A1 I.length c1] w fun e w' => (∃ A c, e = .returned (.slice A (oi out).length c) ∧ Kd.C (Kd.int .i64) w' A (oi out).length (oi out) ∧ (oi out).length ≤ c) ∧ Below w.heap.size w w' := by
  obtain ⟨e1, e2, _, _⟩ := err_zero he
  refine (order_calls N I A0 A1 c0 c1 w e1 e2 hl hr0 hc0 hr1 hc1).mono ?_
  rintro e w' ⟨⟨M, hM, h⟩, hb⟩
  refine ⟨?_, hb⟩
  rw [← orders_same he hM] at h
  rcases h with ⟨out', A, c, h1, h2, rfl, h3⟩ | ⟨h1, _⟩
  · rw [ho] at h1
    obtain rfl := Option.some.inj h1
    exact ⟨A, c, rfl, own_CI h3, own_cap h3⟩
  · rw [ho] at h1; cases h1
theorem none_ref {N : List ByteArray} {I : List (List ByteArray)} {A0 A1 : Option Addr} {c0 c1 : Nat} {w : World} (he : mErr N I = 0) (ho : ord (pOk (nm N) (im I)) (ltN N) N.length N.length [] = none) (hl : ∀ l ∈ I, l.length < LIM) (hr0 : Kd.C Kd.string w A0 N.length N) (hc0 : N.length ≤ c0) (hr1 : Kd.C (Kd.slice 9 Kd.string) w A1 I.length I) (hc1 : I.length ≤ c1) :
    Calls Try.prog 10 #[.slice A0 N.length c0, .slice A1 I.length c1] w fun e w' => e = .returned (.slice none 0 0) ∧ Below w.heap.size w w' := by
  obtain ⟨e1, e2, _, _⟩ := err_zero he
  refine (order_calls N I A0 A1 c0 c1 w e1 e2 hl hr0 hc0 hr1 hc1).mono ?_
  rintro e w' ⟨⟨M, hM, h⟩, hb⟩
  refine ⟨?_, hb⟩
  rw [← orders_same he hM] at h
  rcases h with ⟨out', A, c, h1, h2, rfl, h3⟩ | ⟨h1, rfl⟩
  · rw [ho] at h1; cases h1
  · rfl

set_option maxHeartbeats 4000000 in
set_option maxRecDepth 100000 in
theorem law_none (N : List ByteArray) (I : List (List ByteArray)) (A0 A1 : Option Addr) (c0 c1 : Nat) (w : World) (hN : N.length < LIM) (hI : I.length < LIM) (hl : ∀ l ∈ I, l.length < LIM) (hr0 : Kd.C Kd.string w A0 N.length N) (hc0 : N.length ≤ c0) (hr1 : Kd.C (Kd.slice 9 Kd.string) w A1 I.length I) (hc1 : I.length ≤ c1) (he : mErr N I = 0) (ho : ord (pOk (nm N) (im I)) (ltN N) N.length N.length [] = none) :
    Calls Try.prog 3 #[.slice A0 N.length c0, .slice A1 I.length c1] w fun e w' => e = .returned (.bool true) ∧ Below w.heap.size w w' := by
  have hpos : 0 < N.length := by
    rcases Nat.eq_zero_or_pos N.length with h | h
    · rw [h] at ho; cases ho
    · exact h
  have hpos' : (0 : Int) < (N.length : Int) := by omega
  have HR0 := Go.Lib.hid hr0
  have HR1 := Go.Lib.hid hr1
  have h1 := Go.Lib.hid (fun (W : World) (hb : Below w.heap.size w W) => none_calls (w := W) he ho hl (Kd.C_below HR0.out hb) hc0 (Kd.C_below HR1.out hb) hc1)
  have h2 := Go.Lib.hid (fun (W : World) (hb : Below w.heap.size w W) => error_calls N I A0 A1 c0 c1 W hN hI hl (Kd.C_below HR0.out hb) hc0 (Kd.C_below HR1.out hb) hc1)
  have h3 := Go.Lib.hid (fun (W : World) (hb : Below w.heap.size w W) => check_calls N I A0 A1 c0 c1 W hl (Kd.C_below HR0.out hb) hc0 (Kd.C_below HR1.out hb) hc1)
  have h4 := Go.Lib.hid (fun (W : World) (hb : Below w.heap.size w W) => none_ref (w := W) he ho hl (Kd.C_below HR0.out hb) hc0 (Kd.C_below HR1.out hb) hc1)
  rw [he] at h2 h3
  clear hr0 hr1 hl he hN hI ho hpos
  have Q24 := q24
  go_enter Try.func3, Try.ntmps3
  go_wp2_with fail
  refine (first_calls w _ _ rfl rfl).mono ?_
  rintro e w1 ⟨⟨A, c, rfl, hA, hc⟩, hb1⟩
  have HB1 := Go.Lib.hid hb1
  clear hb1
  go_wp2_with fail
  refine (equalI_calls [1, 0] (by decide) A (some ⟨w1.heap.size, 0, none⟩) c 2 _ (Kd.C_below hA (below_alloc (Below.refl _ _) _)) hc (lit_I (blk_new _ _) rfl (by decide)) (Nat.le_refl _)).mono ?_
  rintro e w2 ⟨rfl, hd2⟩
  have HB2 := Go.Lib.hid ((below_alloc HB1.out _).trans (hd2.below.mono (below_alloc HB1.out _).size))
  clear hd2
  go_wp2_with fail
  refine (h1.out w2 HB2.out).mono ?_
  rintro e w3 ⟨rfl, hb3⟩
  have HB3 := Go.Lib.hid (HB2.out.trans (hb3.mono HB2.out.size))
  clear hb3
  go_wp2_with fail
  refine (h2.out w3 HB3.out).mono ?_
  rintro e w4 ⟨rfl, hb4⟩
  have HB4 := Go.Lib.hid (HB3.out.trans (hb4.mono HB3.out.size))
  clear hb4
  go_wp2_with fail
  refine (h3.out w4 HB4.out).mono ?_
  rintro e w5 ⟨rfl, hd5⟩
  have HB5 := Go.Lib.hid (HB4.out.trans (hd5.below.mono HB4.out.size))
  clear hd5
  go_wp2_with fail
  refine (h4.out w5 HB5.out).mono ?_
  rintro e w6 ⟨rfl, hb6⟩
  have HB6 := Go.Lib.hid (HB5.out.trans (hb6.mono HB5.out.size))
  clear hb6
  go_wp2_with fail
  refine (equalI_calls [] (by decide) none none 0 0 _ (Kd.C_nil _ _) (Nat.le_refl _) (Kd.C_nil _ _) (Nat.le_refl _)).mono ?_
  rintro e w7 ⟨rfl, hd7⟩
  have HB7 := Go.Lib.hid (HB6.out.trans (hd7.below.mono HB6.out.size))
  clear hd7
  go_wp2_with fail
  go_ret
  exact ⟨rfl, HB7.out⟩

set_option maxHeartbeats 4000000 in
set_option maxRecDepth 100000 in
theorem law_some (N : List ByteArray) (I : List (List ByteArray)) (A0 A1 : Option Addr) (c0 c1 : Nat) (w : World) (hN : N.length < LIM) (hI : I.length < LIM) (hl : ∀ l ∈ I, l.length < LIM) (hr0 : Kd.C Kd.string w A0 N.length N) (hc0 : N.length ≤ c0) (hr1 : Kd.C (Kd.slice 9 Kd.string) w A1 I.length I) (hc1 : I.length ≤ c1) (he : mErr N I = 0) (out : List Nat) (ho : ord (pOk (nm N) (im I)) (ltN N) N.length N.length [] = some out) :
    Calls Try.prog 3 #[.slice A0 N.length c0, .slice A1 I.length c1] w fun e w' => e = .returned (.bool true) ∧ Below w.heap.size w w' := by
  have HR0 := Go.Lib.hid hr0
  have HR1 := Go.Lib.hid hr1
  have h1 := Go.Lib.hid (fun (W : World) (hb : Below w.heap.size w W) => some_calls (w := W) he ho hl (Kd.C_below HR0.out hb) hc0 (Kd.C_below HR1.out hb) hc1)
  have h2 := Go.Lib.hid (fun (W : World) (hb : Below w.heap.size w W) => error_calls N I A0 A1 c0 c1 W hN hI hl (Kd.C_below HR0.out hb) hc0 (Kd.C_below HR1.out hb) hc1)
  have h3 := Go.Lib.hid (fun (W : World) (hb : Below w.heap.size w W) => check_calls N I A0 A1 c0 c1 W hl (Kd.C_below HR0.out hb) hc0 (Kd.C_below HR1.out hb) hc1)
  have h4 := Go.Lib.hid (fun (W : World) (hb : Below w.heap.size w W) => some_ref (w := W) he ho hl (Kd.C_below HR0.out hb) hc0 (Kd.C_below HR1.out hb) hc1)
  rw [he] at h2 h3
  have h16 := (err_zero he).1
  generalize oi out = xs at *
  clear hr0 hr1 hl he hN hI ho
  have Q24 := q24
  go_enter Try.func3, Try.ntmps3
  go_wp2_with fail
  refine (first_calls w _ _ rfl rfl).mono ?_
  rintro e w1 ⟨⟨A, c, rfl, hA, hc⟩, hb1⟩
  have HB1 := Go.Lib.hid hb1
  clear hb1
  go_wp2_with fail
  refine (equalI_calls [1, 0] (by decide) A (some ⟨w1.heap.size, 0, none⟩) c 2 _ (Kd.C_below hA (below_alloc (Below.refl _ _) _)) hc (lit_I (blk_new _ _) rfl (by decide)) (Nat.le_refl _)).mono ?_
  rintro e w2 ⟨rfl, hd2⟩
  have HB2 := Go.Lib.hid ((below_alloc HB1.out _).trans (hd2.below.mono (below_alloc HB1.out _).size))
  clear hd2 hA hc
  go_wp2_with fail
  refine (h1.out w2 HB2.out).mono ?_
  rintro e w3 ⟨⟨A3, c3, rfl, k3, l3, hxl⟩, hb3⟩
  have HB3 := Go.Lib.hid (HB2.out.trans (hb3.mono HB2.out.size))
  have K3 := Go.Lib.hid k3
  have hx1 : xs.length < 1000 := by omega
  have HX := Go.Lib.hid hxl
  clear hb3 k3 hxl
  go_wp2_with fail
  refine (h2.out w3 HB3.out).mono ?_
  rintro e w4 ⟨rfl, hb4⟩
  have HB4 := Go.Lib.hid (HB3.out.trans (hb4.mono HB3.out.size))
  have K4 := Go.Lib.hid (Kd.C_below K3.out hb4)
  clear hb4
  go_wp2_with fail
  refine (h3.out w4 HB4.out).mono ?_
  rintro e w5 ⟨rfl, hd5⟩
  have HB5 := Go.Lib.hid (HB4.out.trans (hd5.below.mono HB4.out.size))
  have K5 := Go.Lib.hid (Kd.C_below K4.out hd5.below)
  clear hd5
  go_wp2_with fail
  refine (h4.out w5 HB5.out).mono ?_
  rintro e w6 ⟨⟨A6, c6, rfl, k6, l6⟩, hb6⟩
  have HB6 := Go.Lib.hid (HB5.out.trans (hb6.mono HB5.out.size))
  have K6 := Go.Lib.hid (Kd.C_below K5.out hb6)
  have HE := Go.Lib.hid (fun (W : World) (hW : w6 = W) => equalI_calls xs hx1 A3 A6 c3 c6 W (hW ▸ K6.out) l3 (hW ▸ k6) l6)
  have hz : A6 = none → ¬ (0 : Int) < (N.length : Int) := by
    rintro rfl
    have hxl := HX.out
    rcases Nat.eq_zero_or_pos xs.length with h | h
    · omega
    · obtain ⟨ad, _, e, _⟩ := Kd.C_get k6 0 (0 : Int) (by omega) (by omega)
      cases e
  clear hb6 k6 h1 h2 h3 h4
  cases A6 with
  | none =>
    have hz' := hz rfl
    clear hz
    go_wp2_with fail
    refine (HE.out w6 rfl).mono ?_
    rintro e w7 ⟨rfl, hd7⟩
    have HB7 := Go.Lib.hid (HB6.out.trans (hd7.below.mono HB6.out.size))
    clear hd7
    go_wp2_with fail
    go_ret
    exact ⟨rfl, HB7.out⟩
  | some ad =>
    clear hz
    go_wp2_with fail
    refine (HE.out w6 rfl).mono ?_
    rintro e w7 ⟨rfl, hd7⟩
    have HB7 := Go.Lib.hid (HB6.out.trans (hd7.below.mono HB6.out.size))
    clear hd7
    go_wp2_with fail
    go_ret
    exact ⟨rfl, HB7.out⟩

theorem law_calls (N : List ByteArray) (I : List (List ByteArray)) (A0 A1 : Option Addr) (c0 c1 : Nat) (w : World) (hr0 : Kd.C Kd.string w A0 N.length N) (hc0 : N.length ≤ c0) (hr1 : Kd.C (Kd.slice 9 Kd.string) w A1 I.length I) (hc1 : I.length ≤ c1) :
    Calls Try.prog 3 #[.slice A0 N.length c0, .slice A1 I.length c1] w fun e w' => e = .returned (.bool true) ∧ Below w.heap.size w w' := by
  have hN : N.length < LIM := by have := hr0.2.1; unfold LIM; omega
  have hI : I.length < LIM := by have := hr1.2.1; unfold LIM; omega
  have hl : ∀ l ∈ I, l.length < LIM := by
    intro l hl
    obtain ⟨i, hi, rfl⟩ := List.mem_iff_getElem.1 hl
    obtain ⟨_, A, c, _, _, _, hC⟩ := at_L1 hr1 (i : Int) (by omega) (by omega)
    rw [rd_L1_get hi] at hC
    have := hC.2.1
    unfold LIM; omega
  by_cases he : mErr N I = 0
  · cases ho : ord (pOk (nm N) (im I)) (ltN N) N.length N.length [] with
    | none => exact law_none N I A0 A1 c0 c1 w hN hI hl hr0 hc0 hr1 hc1 he ho
    | some out => exact law_some N I A0 A1 c0 c1 w hN hI hl hr0 hc0 hr1 hc1 he out ho
  · exact law_err N I A0 A1 c0 c1 w hN hI hl hr0 hc0 hr1 hc1 he
end Go.Proofs.Ytdobkkoonamocaa.Mo
