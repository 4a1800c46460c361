import Derived.Test.YtemdfhaceddmpaaTd
namespace Go.Proofs.Ytemdfhaceddmpaa.Tr
open Go.Shelf Go.RowKit Go.Proofs.Ytemdfhaceddmpaa.PPrinterTells Go.Proofs.YtemdfhaceddmpaaW.PrintWords Go.Proofs.YtemdfhaceddmpaaW.PrintLast Go.Proofs.YtemdfhaceddmpaaW.PrintMore
set_option linter.unusedVariables false
set_option linter.unusedSimpArgs false

set_option maxHeartbeats 4000000 in
set_option maxRecDepth 100000 in
theorem fits_e_last (n : Nat) (s s1 : ByteArray) (ch : UInt8) (r : List (UInt8 × UInt8)) (A : Option Addr) (c : Nat) (w : World) (hE : s.toList.isEmpty = false) (hp : 0 < s.size) (hp1 : (1 : Int) ≤ (s.size : Int)) (hx1 : s.extract 1 s.size = s1) (he : s1.toList.isEmpty = true) :
    Calls Try.prog 22 #[.string s, .slice A 0 c] w fun e w' => e = .returned (.bool (fit (n + 1) ((ch, 0) :: r) [])) ∧ Below w.heap.size w w' := by
  obtain ⟨fv, hfv⟩ : ∃ fv, fv = fit (n + 1) ((ch, 0) :: r) [] := ⟨_, rfl⟩
  have HFV := Go.Lib.hid (show fv = false by rw [hfv]; rfl)
  rw [← hfv]
  clear hfv
  go_enter Try.func22, Try.ntmps22
  go_upto_region 7 with fail
  go_quiet (fail)
  go_wp2_with fail
  go_ret
  exact ⟨by rw [HFV.out]; rfl, pw_below_drewN (Below.refl _ _) nq⟩

set_option maxHeartbeats 4000000 in
set_option maxRecDepth 100000 in
theorem fits_e_more (n : Nat) (s s1 : ByteArray) (ch : UInt8) (r : List (UInt8 × UInt8)) (A : Option Addr) (c : Nat) (w : World) (hE : s.toList.isEmpty = false) (hp : 0 < s.size) (hp1 : (1 : Int) ≤ (s.size : Int)) (hx1 : s.extract 1 s.size = s1) (z : UInt8) (he : s1.toList.isEmpty = false) (hp2 : 0 < s1.size) (hz : s1[0].toNat = z.toNat) (hi : Lib.indexByte [42, 43, 63] z = -1) :
    Calls Try.prog 22 #[.string s, .slice A 0 c] w fun e w' => e = .returned (.bool (fit (n + 1) ((ch, 0) :: r) [])) ∧ Below w.heap.size w w' := by
  obtain ⟨fv, hfv⟩ : ∃ fv, fv = fit (n + 1) ((ch, 0) :: r) [] := ⟨_, rfl⟩
  have HFV := Go.Lib.hid (show fv = false by rw [hfv]; rfl)
  rw [← hfv]
  clear hfv
  have HI := Go.Lib.hid hi
  clear hi
  go_enter Try.func22, Try.ntmps22
  go_wp2_with fail
  refine (ix_calls HI.out w).mono ?_
  rintro e w' ⟨rfl, rfl⟩
  go_upto_region 7 with fail
  go_quiet (fail)
  go_wp2_with fail
  go_ret
  exact ⟨by rw [HFV.out]; rfl, pw_below_drewN (Below.refl _ _) nq⟩

set_option maxHeartbeats 4000000 in
set_option maxRecDepth 100000 in
theorem fits_e_star (n : Nat) (s s1 s2 : ByteArray) (ch : UInt8) (r : List (UInt8 × UInt8)) (A : Option Addr) (c : Nat) (w : World) (hE : s.toList.isEmpty = false) (hp : 0 < s.size) (hp1 : (1 : Int) ≤ (s.size : Int)) (hx1 : s.extract 1 s.size = s1)
    (hx2 : s1.extract 1 s1.size = s2) (he : s1.toList.isEmpty = false) (hp2 : 0 < s1.size) (hp3 : (1 : Int) ≤ (s1.size : Int)) (hz : s1[0].toNat = 42) (hr : s2.data.toList = enc r) (hokr : ∀ y ∈ r, okI y) (hn : r.length < n) (hL : FTl n [] (.slice A 0 c) w) :
    Calls Try.prog 22 #[.string s, .slice A 0 c] w fun e w' => e = .returned (.bool (fit (n + 1) ((ch, 42) :: r) [])) ∧ Below w.heap.size w w' := by
  obtain ⟨fv, hfv⟩ : ∃ fv, fv = fit (n + 1) ((ch, 42) :: r) [] := ⟨_, rfl⟩
  have HFV := Go.Lib.hid (show fv = fit n r [] by rw [hfv]; show (fit n r [] || false && _) = _; cases fit n r [] <;> rfl)
  rw [← hfv]
  clear hfv
  have HI := Go.Lib.hid (show ∀ W, Calls Try.prog 34 #[.string ⟨#[42, 43, 63]⟩, .int .u8 42] W fun e w' => e = .returned (.int .i64 0) ∧ w' = W from fun W => index_calls ⟨#[42, 43, 63]⟩ 42 W)
  have HR := Go.Lib.hid hr
  have HOKR := Go.Lib.hid hokr
  have HN := Go.Lib.hid hn
  have HL := Go.Lib.hid hL
  clear hr hokr hn hL
  go_enter Try.func22, Try.ntmps22
  go_wp2_with fail
  refine (HI.out w).mono ?_
  rintro e w' ⟨rfl, hw'⟩
  have HW := Go.Lib.hid hw'
  clear hw' HI
  go_upto_region 6 with fail
  go_quiet (fail)
  obtain ⟨w7, hw7⟩ : ∃ w7, w7 = w'.drewN nq := ⟨_, rfl⟩
  rw [← hw7]
  have HB7 := Go.Lib.hid (show Below w.heap.size w w7 by rw [hw7, HW.out]; exact pw_below_drewN (Below.refl _ _) nq)
  clear hw7
  go_upto_region 7 with fail
  go_quiet (fail)
  obtain ⟨w8, hw8⟩ : ∃ w8, w8 = w7.drewN nq := ⟨_, rfl⟩
  rw [← hw8]
  have HB8 := Go.Lib.hid (show Below w.heap.size w w8 by rw [hw8]; exact pw_below_drewN HB7.out _)
  clear hw8
  obtain ⟨f1, hf1⟩ : ∃ f1, f1 = fit n r [] := ⟨_, rfl⟩
  have HF1 := Go.Lib.hid hf1
  clear hf1
  go_wp2_with fail
  refine (HL.out r _ w8 HB8.out (by have := HN.out; simpa using this) HOKR.out HR.out).mono ?_
  rintro e w3 ⟨rfl, hb3⟩
  have HB3 := Go.Lib.hid (HB8.out.trans (hb3.mono HB8.out.size))
  clear hb3
  rw [← HF1.out]
  have HV := Go.Lib.hid (show fv = f1 by rw [HFV.out, ← HF1.out])
  cases f1
  all_goals
    go_wp2_with fail
    go_ret
    exact ⟨by rw [HV.out]; rfl, HB3.out⟩

set_option maxHeartbeats 4000000 in
set_option maxRecDepth 100000 in
theorem fits_e_quest (n : Nat) (s s1 s2 : ByteArray) (ch : UInt8) (r : List (UInt8 × UInt8)) (A : Option Addr) (c : Nat) (w : World) (hE : s.toList.isEmpty = false) (hp : 0 < s.size) (hp1 : (1 : Int) ≤ (s.size : Int)) (hx1 : s.extract 1 s.size = s1)
    (hx2 : s1.extract 1 s1.size = s2) (he : s1.toList.isEmpty = false) (hp2 : 0 < s1.size) (hp3 : (1 : Int) ≤ (s1.size : Int)) (hz : s1[0].toNat = 63) (hr : s2.data.toList = enc r) (hokr : ∀ y ∈ r, okI y) (hn : r.length < n) (hL : FTl n [] (.slice A 0 c) w) :
    Calls Try.prog 22 #[.string s, .slice A 0 c] w fun e w' => e = .returned (.bool (fit (n + 1) ((ch, 63) :: r) [])) ∧ Below w.heap.size w w' := by
  obtain ⟨fv, hfv⟩ : ∃ fv, fv = fit (n + 1) ((ch, 63) :: r) [] := ⟨_, rfl⟩
  have HFV := Go.Lib.hid (show fv = fit n r [] by rw [hfv]; show (fit n r [] || false && _) = _; cases fit n r [] <;> rfl)
  rw [← hfv]
  clear hfv
  have HI := Go.Lib.hid (show ∀ W, Calls Try.prog 34 #[.string ⟨#[42, 43, 63]⟩, .int .u8 63] W fun e w' => e = .returned (.int .i64 2) ∧ w' = W from fun W => index_calls ⟨#[42, 43, 63]⟩ 63 W)
  have HR := Go.Lib.hid hr
  have HOKR := Go.Lib.hid hokr
  have HN := Go.Lib.hid hn
  have HL := Go.Lib.hid hL
  clear hr hokr hn hL
  go_enter Try.func22, Try.ntmps22
  go_wp2_with fail
  refine (HI.out w).mono ?_
  rintro e w' ⟨rfl, hw'⟩
  have HW := Go.Lib.hid hw'
  clear hw' HI
  go_upto_region 6 with fail
  go_quiet (fail)
  obtain ⟨w7, hw7⟩ : ∃ w7, w7 = w'.drewN nq := ⟨_, rfl⟩
  rw [← hw7]
  have HB7 := Go.Lib.hid (show Below w.heap.size w w7 by rw [hw7, HW.out]; exact pw_below_drewN (Below.refl _ _) nq)
  clear hw7
  go_upto_region 7 with fail
  go_quiet (fail)
  obtain ⟨w8, hw8⟩ : ∃ w8, w8 = w7.drewN nq := ⟨_, rfl⟩
  rw [← hw8]
  have HB8 := Go.Lib.hid (show Below w.heap.size w w8 by rw [hw8]; exact pw_below_drewN HB7.out _)
  clear hw8
  obtain ⟨f1, hf1⟩ : ∃ f1, f1 = fit n r [] := ⟨_, rfl⟩
  have HF1 := Go.Lib.hid hf1
  clear hf1
  go_wp2_with fail
  refine (HL.out r _ w8 HB8.out (by have := HN.out; simpa using this) HOKR.out HR.out).mono ?_
  rintro e w3 ⟨rfl, hb3⟩
  have HB3 := Go.Lib.hid (HB8.out.trans (hb3.mono HB8.out.size))
  clear hb3
  rw [← HF1.out]
  have HV := Go.Lib.hid (show fv = f1 by rw [HFV.out, ← HF1.out])
  cases f1
  all_goals
    go_wp2_with fail
    go_ret
    exact ⟨by rw [HV.out]; rfl, HB3.out⟩

set_option maxHeartbeats 4000000 in
set_option maxRecDepth 100000 in
theorem fits_e_plus (n : Nat) (s s1 s2 : ByteArray) (ch : UInt8) (r : List (UInt8 × UInt8)) (A : Option Addr) (c : Nat) (w : World) (hE : s.toList.isEmpty = false) (hp : 0 < s.size) (hp1 : (1 : Int) ≤ (s.size : Int)) (hx1 : s.extract 1 s.size = s1)
    (hx2 : s1.extract 1 s1.size = s2) (he : s1.toList.isEmpty = false) (hp2 : 0 < s1.size) (hp3 : (1 : Int) ≤ (s1.size : Int)) (hz : s1[0].toNat = 43) (hr : s2.data.toList = enc r) (hokr : ∀ y ∈ r, okI y) (hn : r.length < n) (hL : FTl n [] (.slice A 0 c) w) :
    Calls Try.prog 22 #[.string s, .slice A 0 c] w fun e w' => e = .returned (.bool (fit (n + 1) ((ch, 43) :: r) [])) ∧ Below w.heap.size w w' := by
  obtain ⟨fv, hfv⟩ : ∃ fv, fv = fit (n + 1) ((ch, 43) :: r) [] := ⟨_, rfl⟩
  have HFV := Go.Lib.hid (show fv = false by rw [hfv]; rfl)
  rw [← hfv]
  clear hfv
  have HI := Go.Lib.hid (show ∀ W, Calls Try.prog 34 #[.string ⟨#[42, 43, 63]⟩, .int .u8 43] W fun e w' => e = .returned (.int .i64 1) ∧ w' = W from fun W => index_calls ⟨#[42, 43, 63]⟩ 43 W)
  have HR := Go.Lib.hid hr
  have HOKR := Go.Lib.hid hokr
  have HN := Go.Lib.hid hn
  have HL := Go.Lib.hid hL
  clear hr hokr hn hL
  go_enter Try.func22, Try.ntmps22
  go_wp2_with fail
  refine (HI.out w).mono ?_
  rintro e w' ⟨rfl, hw'⟩
  have HW := Go.Lib.hid hw'
  clear hw' HI
  go_upto_region 6 with fail
  go_quiet (fail)
  obtain ⟨w7, hw7⟩ : ∃ w7, w7 = w'.drewN nq := ⟨_, rfl⟩
  rw [← hw7]
  have HB7 := Go.Lib.hid (show Below w.heap.size w w7 by rw [hw7, HW.out]; exact pw_below_drewN (Below.refl _ _) nq)
  clear hw7
  go_upto_region 7 with fail
  go_quiet (fail)
  obtain ⟨w8, hw8⟩ : ∃ w8, w8 = w7.drewN nq := ⟨_, rfl⟩
  rw [← hw8]
  have HB8 := Go.Lib.hid (show Below w.heap.size w w8 by rw [hw8]; exact pw_below_drewN HB7.out _)
  clear hw8
  go_upto_region 12 with fail
  go_quiet (fail)
  go_wp2_with fail
  go_ret
  exact ⟨by rw [HFV.out]; rfl, pw_below_drewN HB8.out _⟩

end Go.Proofs.Ytemdfhaceddmpaa.Tr
