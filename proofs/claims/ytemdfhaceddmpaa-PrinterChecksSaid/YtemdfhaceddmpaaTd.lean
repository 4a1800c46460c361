import Derived.Test.YtemdfhaceddmpaaTc
namespace Go.Proofs.Ytemdfhaceddmpaa.Tr
open Go.Shelf Go.RowKit Go.Proofs.Ytemdfhaceddmpaa.PPrinterTells Go.Proofs.YtemdfhaceddmpaaW.PrintWords Go.Proofs.YtemdfhaceddmpaaW.PrintLast Go.Proofs.YtemdfhaceddmpaaW.PrintMore
set_option linter.unusedVariables false
set_option linter.unusedSimpArgs false
theorem run_add_strings {a b : ByteArray} {w : World} (h : a.size + b.size ≤ 9223372036854775807) : (Op.stringOp .add a b).run Try.prog w = .ok (.string (a ++ b)) w := by
  have : ¬ ((9223372036854775807 : Int) < (a.size : Int) + (b.size : Int)) := by omega
  simp [Op.stringOp, this]

set_option maxHeartbeats 4000000 in
set_option maxRecDepth 100000 in
theorem fits_last (n : Nat) (s s1 : ByteArray) (ch : UInt8) (r : List (UInt8 × UInt8)) (x : Int) (l' : List Int) (ad : Addr) (c : Nat) (w : World) (hE : s.toList.isEmpty = false) (hp : 0 < s.size) (hp1 : (1 : Int) ≤ (s.size : Int)) (hx1 : s.extract 1 s.size = s1) (hi0 : s[0].toNat = ch.toNat)
    (he : s1.toList.isEmpty = true) (hr : s1.data.toList = enc r) (hok : okI (ch, 0)) (hokr : ∀ y ∈ r, okI y) (x1 : w.cell? ad = some (.int .i64 x)) (hc : 1 ≤ c) (hn : r.length + l'.length + 1 < n)
    (hT : (c = 1 ∧ FTl n l' (.slice (some ad) l'.length 0) w) ∨ (¬ c = 1 ∧ FTl n l' (.slice (some (ad.add 1)) l'.length (c - 1)) w)) :
    Calls Try.prog 22 #[.string s, .slice (some ad) (l'.length + 1) c] w fun e w' => e = .returned (.bool (fit (n + 1) ((ch, 0) :: r) (x :: l'))) ∧ Below w.heap.size w w' := by
  have HOF := Go.Lib.hid (fun W => isOf_calls ((ch.toNat : Nat) : Int) x W hok.1)
  obtain ⟨b, hb⟩ : ∃ b, b = decide (x ∈ kinds ((ch.toNat : Nat) : Int)) := ⟨_, rfl⟩
  rw [← hb] at HOF
  obtain ⟨fv, hfv⟩ : ∃ fv, fv = fit (n + 1) ((ch, 0) :: r) (x :: l') := ⟨_, rfl⟩
  have HFV := Go.Lib.hid (show fv = (b && fit n r l') by rw [hfv, hb]; rfl)
  rw [← hfv]
  have HR := Go.Lib.hid hr
  have HOKR := Go.Lib.hid hokr
  have HN := Go.Lib.hid hn
  clear hb hfv hr hok hokr hn
  rcases hT with ⟨rfl, hT⟩ | ⟨hc1, hT⟩
  all_goals
    have HT := Go.Lib.hid hT
    clear hT
    go_enter Try.func22, Try.ntmps22
    go_upto_region 7 with fail
    obtain ⟨w7, hw7⟩ : ∃ w7, w7 = w := ⟨_, rfl⟩
    rw [← hw7]
    have x7 : w7.cell? ad = some (.int .i64 x) := by rw [hw7]; exact x1
    have HB7 := Go.Lib.hid (show Below w.heap.size w w7 by rw [hw7]; exact Below.refl _ _)
    clear x1 hw7
    go_still_tail 9, (by kernel_rfl)
    change wpList _ _ _ _ _ w7.drew
    go_wp2_with fail
    refine (HOF.out _).mono ?_
    rintro e w2 ⟨rfl, hb2⟩
    have HB2 := Go.Lib.hid (HB7.out.trans (((below_drew1 (Below.refl w7.heap.size w7)).trans hb2).mono HB7.out.size))
    clear hb2 hi0 x7 HOF
    cases b with
    | false =>
      go_wp2_with fail
      go_ret
      exact ⟨by rw [HFV.out]; rfl, HB2.out⟩
    | true =>
      have HV := Go.Lib.hid (show fv = fit n r l' by rw [HFV.out]; rfl)
      clear HFV
      go_wp2_with fail
      refine (HT.out r _ w2 HB2.out (by have := HN.out; omega) HOKR.out HR.out).mono ?_
      rintro e w3 ⟨rfl, hb3⟩
      have HB3 := Go.Lib.hid (HB2.out.trans (hb3.mono HB2.out.size))
      clear hb3
      rw [← HV.out]
      go_wp2_with fail
      go_ret
      exact ⟨rfl, HB3.out⟩

set_option maxHeartbeats 4000000 in
set_option maxRecDepth 100000 in
theorem fits_more (n : Nat) (s s1 : ByteArray) (ch : UInt8) (r : List (UInt8 × UInt8)) (x : Int) (l' : List Int) (ad : Addr) (c : Nat) (w : World) (hE : s.toList.isEmpty = false) (hp : 0 < s.size) (hp1 : (1 : Int) ≤ (s.size : Int)) (hx1 : s.extract 1 s.size = s1) (hi0 : s[0].toNat = ch.toNat)
    (z : UInt8) (he : s1.toList.isEmpty = false) (hp2 : 0 < s1.size) (hz : s1[0].toNat = z.toNat) (hi : Lib.indexByte [42, 43, 63] z = -1) (hr : s1.data.toList = enc r) (hok : okI (ch, 0)) (hokr : ∀ y ∈ r, okI y) (x1 : w.cell? ad = some (.int .i64 x)) (hc : 1 ≤ c) (hn : r.length + l'.length + 1 < n)
    (hT : (c = 1 ∧ FTl n l' (.slice (some ad) l'.length 0) w) ∨ (¬ c = 1 ∧ FTl n l' (.slice (some (ad.add 1)) l'.length (c - 1)) w)) :
    Calls Try.prog 22 #[.string s, .slice (some ad) (l'.length + 1) c] w fun e w' => e = .returned (.bool (fit (n + 1) ((ch, 0) :: r) (x :: l'))) ∧ Below w.heap.size w w' := by
  have HOF := Go.Lib.hid (fun W => isOf_calls ((ch.toNat : Nat) : Int) x W hok.1)
  obtain ⟨b, hb⟩ : ∃ b, b = decide (x ∈ kinds ((ch.toNat : Nat) : Int)) := ⟨_, rfl⟩
  rw [← hb] at HOF
  obtain ⟨fv, hfv⟩ : ∃ fv, fv = fit (n + 1) ((ch, 0) :: r) (x :: l') := ⟨_, rfl⟩
  have HFV := Go.Lib.hid (show fv = (b && fit n r l') by rw [hfv, hb]; rfl)
  rw [← hfv]
  have HR := Go.Lib.hid hr
  have HOKR := Go.Lib.hid hokr
  have HN := Go.Lib.hid hn
  clear hb hfv hr hok hokr hn
  rcases hT with ⟨rfl, hT⟩ | ⟨hc1, hT⟩
  all_goals
    have HT := Go.Lib.hid hT
    clear hT
    go_enter Try.func22, Try.ntmps22
    have HI := Go.Lib.hid hi
    clear hi
    go_wp2_with fail
    refine (ix_calls HI.out w).mono ?_
    rintro e w' ⟨rfl, rfl⟩
    go_upto_region 7 with fail
    obtain ⟨w7, hw7⟩ : ∃ w7, w7 = w' := ⟨_, rfl⟩
    rw [← hw7]
    have x7 : w7.cell? ad = some (.int .i64 x) := by rw [hw7]; exact x1
    have HB7 := Go.Lib.hid (show Below w'.heap.size w' w7 by rw [hw7]; exact Below.refl _ _)
    clear x1 hw7
    go_still_tail 9, (by kernel_rfl)
    change wpList _ _ _ _ _ w7.drew
    go_wp2_with fail
    refine (HOF.out _).mono ?_
    rintro e w2 ⟨rfl, hb2⟩
    have HB2 := Go.Lib.hid (HB7.out.trans (((below_drew1 (Below.refl w7.heap.size w7)).trans hb2).mono HB7.out.size))
    clear hb2 hi0 x7 HOF
    cases b with
    | false =>
      go_wp2_with fail
      go_ret
      exact ⟨by rw [HFV.out]; rfl, HB2.out⟩
    | true =>
      have HV := Go.Lib.hid (show fv = fit n r l' by rw [HFV.out]; rfl)
      clear HFV
      go_wp2_with fail
      refine (HT.out r _ w2 HB2.out (by have := HN.out; omega) HOKR.out HR.out).mono ?_
      rintro e w3 ⟨rfl, hb3⟩
      have HB3 := Go.Lib.hid (HB2.out.trans (hb3.mono HB2.out.size))
      clear hb3
      rw [← HV.out]
      go_wp2_with fail
      go_ret
      exact ⟨rfl, HB3.out⟩

set_option maxHeartbeats 4000000 in
set_option maxRecDepth 100000 in
theorem fits_star (n : Nat) (s s1 s2 : ByteArray) (ch : UInt8) (r : List (UInt8 × UInt8)) (x : Int) (l' : List Int) (ad : Addr) (c : Nat) (w : World) (hs : s.data.toList = enc ((ch, 42) :: r)) (hE : s.toList.isEmpty = false) (hp : 0 < s.size) (hp1 : (1 : Int) ≤ (s.size : Int)) (hx1 : s.extract 1 s.size = s1) (hi0 : s[0].toNat = ch.toNat)
    (hx2 : s1.extract 1 s1.size = s2) (he : s1.toList.isEmpty = false) (hp2 : 0 < s1.size) (hp3 : (1 : Int) ≤ (s1.size : Int)) (hz : s1[0].toNat = 42) (hr : s2.data.toList = enc r) (hok : okI (ch, 42)) (hokr : ∀ y ∈ r, okI y) (x1 : w.cell? ad = some (.int .i64 x)) (hc : 1 ≤ c) (hn : r.length + l'.length + 1 < n)
    (hL : FTl n (x :: l') (.slice (some ad) (l'.length + 1) c) w) (hT : (c = 1 ∧ FTl n l' (.slice (some ad) l'.length 0) w) ∨ (¬ c = 1 ∧ FTl n l' (.slice (some (ad.add 1)) l'.length (c - 1)) w)) :
    Calls Try.prog 22 #[.string s, .slice (some ad) (l'.length + 1) c] w fun e w' => e = .returned (.bool (fit (n + 1) ((ch, 42) :: r) (x :: l'))) ∧ Below w.heap.size w w' := by
  have HOF := Go.Lib.hid (fun W => isOf_calls ((ch.toNat : Nat) : Int) x W hok.1)
  obtain ⟨b, hb⟩ : ∃ b, b = decide (x ∈ kinds ((ch.toNat : Nat) : Int)) := ⟨_, rfl⟩
  rw [← hb] at HOF
  obtain ⟨fv, hfv⟩ : ∃ fv, fv = fit (n + 1) ((ch, 42) :: r) (x :: l') := ⟨_, rfl⟩
  have HFV := Go.Lib.hid (show fv = (fit n r (x :: l') || b && fit n ((ch, 42) :: r) l') by rw [hfv, hb]; rfl)
  rw [← hfv]
  have HI := Go.Lib.hid (show ∀ W, Calls Try.prog 34 #[.string ⟨#[42, 43, 63]⟩, .int .u8 42] W fun e w' => e = .returned (.int .i64 0) ∧ w' = W from fun W => index_calls ⟨#[42, 43, 63]⟩ 42 W)
  have HR := Go.Lib.hid hr
  have HS := Go.Lib.hid hs
  have HOK := Go.Lib.hid hok
  have HOKR := Go.Lib.hid hokr
  have HN := Go.Lib.hid hn
  have HL := Go.Lib.hid hL
  clear hb hfv hr hok hokr hn hL hs
  rcases hT with ⟨rfl, hT⟩ | ⟨hc1, hT⟩
  all_goals
    have HT := Go.Lib.hid hT
    clear hT
    go_enter Try.func22, Try.ntmps22
    go_wp2_with fail
    refine (HI.out w).mono ?_
    rintro e w' ⟨rfl, hw'⟩
    have HW := Go.Lib.hid hw'
    have x6 : w'.cell? ad = some (.int .i64 x) := by rw [hw']; exact x1
    clear hw' HI x1
    go_upto_region 6 with fail
    go_quiet (fail)
    obtain ⟨w7, hw7⟩ : ∃ w7, w7 = w'.drewN nq := ⟨_, rfl⟩
    rw [← hw7]
    have x7 : w7.cell? ad = some (.int .i64 x) := by rw [hw7]; exact x6
    have HB7 := Go.Lib.hid (show Below w.heap.size w w7 by rw [hw7, HW.out]; exact pw_below_drewN (Below.refl _ _) nq)
    clear x6 hw7
    go_upto_region 7 with fail
    go_still_tail 9, (by kernel_rfl)
    change wpList _ _ _ _ _ w7.drew
    go_upto_region 8 with fail
    refine (HOF.out _).mono ?_
    rintro e w2 ⟨rfl, hb2⟩
    have HB2 := Go.Lib.hid (HB7.out.trans (((below_drew1 (Below.refl w7.heap.size w7)).trans hb2).mono HB7.out.size))
    clear hb2 x7 HOF
    obtain ⟨f1, hf1⟩ : ∃ f1, f1 = fit n r (x :: l') := ⟨_, rfl⟩
    have HF1 := Go.Lib.hid hf1
    clear hf1
    go_wp2_with fail
    refine (HL.out r _ w2 HB2.out (by have := HN.out; simp; omega) HOKR.out HR.out).mono ?_
    rintro e w3 ⟨rfl, hb3⟩
    have HB3 := Go.Lib.hid (HB2.out.trans (hb3.mono HB2.out.size))
    clear hb3
    rw [← HF1.out]
    cases f1 with
    | true =>
      have HV := Go.Lib.hid (show fv = true by rw [HFV.out, ← HF1.out]; rfl)
      go_wp2_with fail
      go_ret
      exact ⟨by rw [HV.out]; rfl, HB3.out⟩
    | false =>
      cases b with
      | false =>
        have HV := Go.Lib.hid (show fv = false by rw [HFV.out, ← HF1.out]; rfl)
        go_wp2_with fail
        go_ret
        exact ⟨by rw [HV.out]; rfl, HB3.out⟩
      | true =>
        have HV := Go.Lib.hid (show fv = fit n ((ch, 42) :: r) l' by rw [HFV.out, ← HF1.out]; rfl)
        go_wp2_with fail
        refine (HT.out ((ch, 42) :: r) _ w3 HB3.out (by have := HN.out; (try simp only [List.length_cons]); omega) (fun y hy => by rcases List.mem_cons.1 hy with rfl | hy; exact HOK.out; exact HOKR.out y hy) HS.out).mono ?_
        rintro e w4 ⟨rfl, hb4⟩
        have HB4 := Go.Lib.hid (HB3.out.trans (hb4.mono HB3.out.size))
        clear hb4
        rw [← HV.out]
        go_wp2_with fail
        go_ret
        exact ⟨rfl, HB4.out⟩

set_option maxHeartbeats 4000000 in
set_option maxRecDepth 100000 in
theorem fits_quest (n : Nat) (s s1 s2 : ByteArray) (ch : UInt8) (r : List (UInt8 × UInt8)) (x : Int) (l' : List Int) (ad : Addr) (c : Nat) (w : World) (hs : s.data.toList = enc ((ch, 63) :: r)) (hE : s.toList.isEmpty = false) (hp : 0 < s.size) (hp1 : (1 : Int) ≤ (s.size : Int)) (hx1 : s.extract 1 s.size = s1) (hi0 : s[0].toNat = ch.toNat)
    (hx2 : s1.extract 1 s1.size = s2) (he : s1.toList.isEmpty = false) (hp2 : 0 < s1.size) (hp3 : (1 : Int) ≤ (s1.size : Int)) (hz : s1[0].toNat = 63) (hr : s2.data.toList = enc r) (hok : okI (ch, 63)) (hokr : ∀ y ∈ r, okI y) (x1 : w.cell? ad = some (.int .i64 x)) (hc : 1 ≤ c) (hn : r.length + l'.length + 1 < n)
    (hL : FTl n (x :: l') (.slice (some ad) (l'.length + 1) c) w) (hT : (c = 1 ∧ FTl n l' (.slice (some ad) l'.length 0) w) ∨ (¬ c = 1 ∧ FTl n l' (.slice (some (ad.add 1)) l'.length (c - 1)) w)) :
    Calls Try.prog 22 #[.string s, .slice (some ad) (l'.length + 1) c] w fun e w' => e = .returned (.bool (fit (n + 1) ((ch, 63) :: r) (x :: l'))) ∧ Below w.heap.size w w' := by
  have HOF := Go.Lib.hid (fun W => isOf_calls ((ch.toNat : Nat) : Int) x W hok.1)
  obtain ⟨b, hb⟩ : ∃ b, b = decide (x ∈ kinds ((ch.toNat : Nat) : Int)) := ⟨_, rfl⟩
  rw [← hb] at HOF
  obtain ⟨fv, hfv⟩ : ∃ fv, fv = fit (n + 1) ((ch, 63) :: r) (x :: l') := ⟨_, rfl⟩
  have HFV := Go.Lib.hid (show fv = (fit n r (x :: l') || b && fit n r l') by rw [hfv, hb]; rfl)
  rw [← hfv]
  have HI := Go.Lib.hid (show ∀ W, Calls Try.prog 34 #[.string ⟨#[42, 43, 63]⟩, .int .u8 63] W fun e w' => e = .returned (.int .i64 2) ∧ w' = W from fun W => index_calls ⟨#[42, 43, 63]⟩ 63 W)
  have HR := Go.Lib.hid hr
  have HS := Go.Lib.hid hs
  have HOK := Go.Lib.hid hok
  have HOKR := Go.Lib.hid hokr
  have HN := Go.Lib.hid hn
  have HL := Go.Lib.hid hL
  clear hb hfv hr hok hokr hn hL hs
  rcases hT with ⟨rfl, hT⟩ | ⟨hc1, hT⟩
  all_goals
    have HT := Go.Lib.hid hT
    clear hT
    go_enter Try.func22, Try.ntmps22
    go_wp2_with fail
    refine (HI.out w).mono ?_
    rintro e w' ⟨rfl, hw'⟩
    have HW := Go.Lib.hid hw'
    have x6 : w'.cell? ad = some (.int .i64 x) := by rw [hw']; exact x1
    clear hw' HI x1
    go_upto_region 6 with fail
    go_quiet (fail)
    obtain ⟨w7, hw7⟩ : ∃ w7, w7 = w'.drewN nq := ⟨_, rfl⟩
    rw [← hw7]
    have x7 : w7.cell? ad = some (.int .i64 x) := by rw [hw7]; exact x6
    have HB7 := Go.Lib.hid (show Below w.heap.size w w7 by rw [hw7, HW.out]; exact pw_below_drewN (Below.refl _ _) nq)
    clear x6 hw7
    go_upto_region 7 with fail
    go_still_tail 9, (by kernel_rfl)
    change wpList _ _ _ _ _ w7.drew
    go_upto_region 8 with fail
    refine (HOF.out _).mono ?_
    rintro e w2 ⟨rfl, hb2⟩
    have HB2 := Go.Lib.hid (HB7.out.trans (((below_drew1 (Below.refl w7.heap.size w7)).trans hb2).mono HB7.out.size))
    clear hb2 x7 HOF
    obtain ⟨f1, hf1⟩ : ∃ f1, f1 = fit n r (x :: l') := ⟨_, rfl⟩
    have HF1 := Go.Lib.hid hf1
    clear hf1
    go_wp2_with fail
    refine (HL.out r _ w2 HB2.out (by have := HN.out; simp; omega) HOKR.out HR.out).mono ?_
    rintro e w3 ⟨rfl, hb3⟩
    have HB3 := Go.Lib.hid (HB2.out.trans (hb3.mono HB2.out.size))
    clear hb3
    rw [← HF1.out]
    cases f1 with
    | true =>
      have HV := Go.Lib.hid (show fv = true by rw [HFV.out, ← HF1.out]; rfl)
      go_wp2_with fail
      go_ret
      exact ⟨by rw [HV.out]; rfl, HB3.out⟩
    | false =>
      cases b with
      | false =>
        have HV := Go.Lib.hid (show fv = false by rw [HFV.out, ← HF1.out]; rfl)
        go_wp2_with fail
        go_ret
        exact ⟨by rw [HV.out]; rfl, HB3.out⟩
      | true =>
        have HV := Go.Lib.hid (show fv = fit n r l' by rw [HFV.out, ← HF1.out]; rfl)
        go_wp2_with fail
        refine (HT.out r _ w3 HB3.out (by have := HN.out; (try simp only [List.length_cons]); omega) HOKR.out HR.out).mono ?_
        rintro e w4 ⟨rfl, hb4⟩
        have HB4 := Go.Lib.hid (HB3.out.trans (hb4.mono HB3.out.size))
        clear hb4
        rw [← HV.out]
        go_wp2_with fail
        go_ret
        exact ⟨rfl, HB4.out⟩

set_option maxHeartbeats 4000000 in
set_option maxRecDepth 100000 in
theorem fits_plus (n : Nat) (s s1 s2 : ByteArray) (ch : UInt8) (r : List (UInt8 × UInt8)) (x : Int) (l' : List Int) (ad : Addr) (c : Nat) (w : World) (hs : s.data.toList = enc ((ch, 43) :: r)) (hE : s.toList.isEmpty = false) (hp : 0 < s.size) (hp1 : (1 : Int) ≤ (s.size : Int)) (hx1 : s.extract 1 s.size = s1) (hi0 : s[0].toNat = ch.toNat)
    (hx2 : s1.extract 1 s1.size = s2) (he : s1.toList.isEmpty = false) (hp2 : 0 < s1.size) (hp3 : (1 : Int) ≤ (s1.size : Int)) (hz : s1[0].toNat = 43) (hr : s2.data.toList = enc r) (hok : okI (ch, 43)) (hokr : ∀ y ∈ r, okI y) (x1 : w.cell? ad = some (.int .i64 x)) (hc : 1 ≤ c) (hn : r.length + l'.length + 1 < n)
    (s3 : ByteArray) (hs3 : s3 = s.extract 0 1 ++ ⟨#[42]⟩ ++ s2) (hs3l : (s.extract 0 1 ++ ⟨#[42]⟩).size + s2.size ≤ 9223372036854775807) (hs3e : s3.data.toList = enc ((ch, 42) :: r))
    (hL : FTl n (x :: l') (.slice (some ad) (l'.length + 1) c) w) (hT : (c = 1 ∧ FTl n l' (.slice (some ad) l'.length 0) w) ∨ (¬ c = 1 ∧ FTl n l' (.slice (some (ad.add 1)) l'.length (c - 1)) w)) :
    Calls Try.prog 22 #[.string s, .slice (some ad) (l'.length + 1) c] w fun e w' => e = .returned (.bool (fit (n + 1) ((ch, 43) :: r) (x :: l'))) ∧ Below w.heap.size w w' := by
  have HS3 := Go.Lib.hid hs3
  have HS3L := Go.Lib.hid hs3l
  have HS3E := Go.Lib.hid hs3e
  clear hs3 hs3l hs3e
  have HOF := Go.Lib.hid (fun W => isOf_calls ((ch.toNat : Nat) : Int) x W hok.1)
  obtain ⟨b, hb⟩ : ∃ b, b = decide (x ∈ kinds ((ch.toNat : Nat) : Int)) := ⟨_, rfl⟩
  rw [← hb] at HOF
  obtain ⟨fv, hfv⟩ : ∃ fv, fv = fit (n + 1) ((ch, 43) :: r) (x :: l') := ⟨_, rfl⟩
  have HFV := Go.Lib.hid (show fv = (b && fit n ((ch, 42) :: r) l') by rw [hfv, hb]; rfl)
  rw [← hfv]
  have HI := Go.Lib.hid (show ∀ W, Calls Try.prog 34 #[.string ⟨#[42, 43, 63]⟩, .int .u8 43] W fun e w' => e = .returned (.int .i64 1) ∧ w' = W from fun W => index_calls ⟨#[42, 43, 63]⟩ 43 W)
  have HR := Go.Lib.hid hr
  have HS := Go.Lib.hid hs
  have HOK := Go.Lib.hid hok
  have HOKR := Go.Lib.hid hokr
  have HN := Go.Lib.hid hn
  have HL := Go.Lib.hid hL
  clear hb hfv hr hok hokr hn hL hs
  rcases hT with ⟨rfl, hT⟩ | ⟨hc1, hT⟩
  all_goals
    have HT := Go.Lib.hid hT
    clear hT
    go_enter Try.func22, Try.ntmps22
    go_wp2_with fail
    refine (HI.out w).mono ?_
    rintro e w' ⟨rfl, hw'⟩
    have HW := Go.Lib.hid hw'
    have x6 : w'.cell? ad = some (.int .i64 x) := by rw [hw']; exact x1
    clear hw' HI x1
    go_upto_region 6 with fail
    go_quiet (fail)
    obtain ⟨w7, hw7⟩ : ∃ w7, w7 = w'.drewN nq := ⟨_, rfl⟩
    rw [← hw7]
    have x7 : w7.cell? ad = some (.int .i64 x) := by rw [hw7]; exact x6
    have HB7 := Go.Lib.hid (show Below w.heap.size w w7 by rw [hw7, HW.out]; exact pw_below_drewN (Below.refl _ _) nq)
    clear x6 hw7
    go_upto_region 7 with fail
    go_still_tail 9, (by kernel_rfl)
    change wpList _ _ _ _ _ w7.drew
    go_upto_region 8 with fail
    refine (HOF.out _).mono ?_
    rintro e w2 ⟨rfl, hb2⟩
    have HB2 := Go.Lib.hid (HB7.out.trans (((below_drew1 (Below.refl w7.heap.size w7)).trans hb2).mono HB7.out.size))
    clear hb2 x7 HOF
    go_upto_region 12 with fail
    cases b with
    | false =>
      have HV := Go.Lib.hid (show fv = false by rw [HFV.out]; rfl)
      go_quiet (fail)
      go_wp2_with fail
      go_ret
      exact ⟨by rw [HV.out]; rfl, pw_below_drewN HB2.out nq⟩
    | true =>
      have HV := Go.Lib.hid (show fv = fit n ((ch, 42) :: r) l' by rw [HFV.out]; rfl)
      have ha1 : ∀ W : World, (Op.stringOp .add (s.extract 0 1) ⟨#[42]⟩).run Try.prog W = .ok (.string (s.extract 0 1 ++ ⟨#[42]⟩)) W := fun W => run_add_strings (by rw [ByteArray.size_extract]; show min 1 s.size - 0 + 1 ≤ 9223372036854775807; omega)
      have ha2 : ∀ W : World, (Op.stringOp .add (s.extract 0 1 ++ ⟨#[42]⟩) s2).run Try.prog W = .ok (.string s3) W := fun W => by rw [HS3.out]; exact run_add_strings HS3L.out
      have hlen1 : (1 : Int) ≤ (l'.length : Int) + 1 := by omega
      go_still_tail 9, (by kernel_rfl)
      change wpList _ _ _ _ _ w2.drew
      go_wp2_with fail
      refine (HT.out ((ch, 42) :: r) s3 w2.drew (HB2.out.trans (below_drew1 (Below.refl _ _) |>.mono HB2.out.size)) (by have := HN.out; simp only [List.length_cons]; omega) (fun y hy => by rcases List.mem_cons.1 hy with rfl | hy; exact ⟨HOK.out.1, Or.inr (Or.inl rfl)⟩; exact HOKR.out y hy) HS3E.out).mono ?_
      rintro e w4 ⟨rfl, hb4⟩
      have HB4 := Go.Lib.hid ((HB2.out.trans (below_drew1 (Below.refl w2.heap.size w2) |>.mono HB2.out.size)).trans (hb4.mono (Nat.le_trans HB2.out.size (Nat.le_refl _))))
      clear hb4
      rw [← HV.out]
      go_wp2_with fail
      go_ret
      exact ⟨rfl, HB4.out⟩

end Go.Proofs.Ytemdfhaceddmpaa.Tr
