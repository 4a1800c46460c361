import Derived.Test.YtmekgcpdkbegnaaDoorSq
import Derived.OwnWalk
namespace Go.Proofs.YtmekgcpdkbegnaaDoor.Sp
open Go.RowKit
set_option linter.unusedVariables false
set_option linter.unusedSimpArgs false

theorem w64 (x : Int) (h1 : -9223372036854775808 ≤ x) (h2 : x ≤ 9223372036854775807) : wrap64 x = x := by unfold wrap64; omega

theorem pw_drewN {n : Nat} (w : World) (m : Nat) (_ : n ≤ w.heap.size) : Below n w (w.drewN m) := ⟨rfl, rfl, rfl, Nat.le_refl _, fun _ _ => rfl⟩

theorem ext_list (s : ByteArray) (k : Nat) (hk : k ≤ s.size) : (s.extract 0 k).data.toList = s.data.toList.take k := by
  simp

theorem count_pl (s : ByteArray) : ∀ k, k ≤ s.size → ((Lib.countByte (s.data.toList.take k) 10 : Nat) : Int) + 1 = (plN s k).1
  | 0, _ => by simp [Lib.countByte, plN]
  | k + 1, hk => by
    have ih := count_pl s k (by omega)
    have hl : k < s.data.toList.length := by simpa using (show k < s.size by omega)
    rw [List.take_succ_eq_append_getElem hl]
    unfold Lib.countByte at *
    rw [List.count_append]
    unfold plN byteN
    rw [List.getD_eq_getElem?_getD, List.getElem?_eq_getElem hl]
    simp only [Option.getD_some, List.count_singleton]
    by_cases hb : s.data.toList[k] = 10
    · rw [hb]
      simp
      omega
    · have h2 : ¬ ((s.data.toList[k].toNat : Int) = 10) := by
        intro h
        apply hb
        have : s.data.toList[k].toNat = 10 := by exact_mod_cast h
        exact UInt8.toNat_inj.1 this
      rw [if_neg h2]
      simp only [beq_iff_eq, hb, if_false, Nat.add_zero]
      exact ih

theorem last_pl (s : ByteArray) (n : Nat) (hn : n ≤ s.size) : ∀ k, k ≤ n → (k : Int) - Lib.lastIdx (s.extract 0 n) 10 k = (plN s k).2
  | 0, _ => by simp [Lib.lastIdx, plN]
  | k + 1, hk => by
    have ih := last_pl s n hn k (by omega)
    have hl : k < s.data.toList.length := by simpa using (show k < s.size by omega)
    have hb : (((s.extract 0 n).data[k]!).toNat : Int) = byteN s k := by
      unfold byteN
      have h1 : k < (s.extract 0 n).data.size := by simp; omega
      rw [getElem!_pos (s.extract 0 n).data k h1, List.getD_eq_getElem?_getD, List.getElem?_eq_getElem hl]
      simp
    by_cases h10 : byteN s k = 10
    · rw [Lib.lastIdx_hit _ _ _ (hb.trans h10)]
      unfold plN
      rw [if_pos h10]
      simp
      omega
    · rw [Lib.lastIdx_miss _ _ _ (by rw [hb]; exact h10)]
      unfold plN
      rw [if_neg h10]
      simp
      omega
theorem place_of (s : ByteArray) (k : Nat) (hk : k ≤ s.size) : (k : Int) - Lib.lastIndexByte (s.extract 0 k) 10 = (plN s k).2 := by
  unfold Lib.lastIndexByte
  have : (s.extract 0 k).size = k := by simp; omega
  rw [this]
  exact last_pl s k hk k (Nat.le_refl _)

set_option maxHeartbeats 4000000 in
set_option maxRecDepth 100000 in
theorem Place_ok (s : ByteArray) (k : Nat) (w : World) (hk : k ≤ s.size) (hc : chk s = 0) (hz : s.size ≤ 8192) :
    Calls Tryd.prog 4 #[.string s, .int .i64 k] w fun e w' => e = .returned (.tuple #[.int .i64 (plN s k).1, .int .i64 (plN s k).2, .int .i64 0]) ∧ Below w.heap.size w w' := by
  go_enter Tryd.func4, Tryd.ntmps4
  go_wp2_with fail
  refine (check_calls s w (by omega)).mono ?_
  rintro e w1 ⟨rfl, hb1⟩
  rw [hc]
  have HB := Go.Lib.hid hb1
  clear hb1
  have h0 : decide ((k : Int) < 0) = false := decide_eq_false (by omega)
  have h1 : decide ((s.size : Int) < (k : Int)) = false := decide_eq_false (by omega)
  have hq1 : ((Lib.countByte (s.extract 0 k).data.toList 10 : Nat) : Int) + 1 = (plN s k).1 := by rw [ext_list s k hk]; exact count_pl s k hk
  have hq2 := place_of s k hk
  have hq3 := plN_bound s k
  have hw1 : wrap64 (1 + ((Lib.countByte (s.data.toList.take k) 10 : Nat) : Int)) = (plN s k).1 := by
    rw [ext_list s k hk] at hq1
    rw [w64 _ (by omega) (by omega)]
    omega
  have hw2 : IntKind.i64.wrap ((k : Int) - Lib.lastIndexByte (s.extract 0 k) 10) = (plN s k).2 := by
    rw [hq2, show IntKind.i64.wrap (plN s k).2 = wrap64 (plN s k).2 by simp [IntKind.wrap, IntKind.bits, IntKind.signed, wrap64]; omega, w64 _ (by omega) (by omega)]
  have HW1 := Go.Lib.hid hw1
  clear hw1
  have hlt : (s.extract 0 k).size < 4611686018427387904 := by simp; omega
  clear hq1 hq2 hq3
  go_wp2_with fail
  go_quiet (first | (go_at_call 10; refine Calls.quiet_of_same (Tryd.strings_Count_one _ _ _)) | (go_at_call 11; refine Calls.quiet_of_same (Tryd.strings_LastIndexByte _ _ hlt _)))
  go_wp2_with fail
  go_ret3
  exact ⟨by rw [← HW1.out]; rfl, HB.out.trans (pw_drewN w1 nq (by have := HB.out.size; omega))⟩
end Go.Proofs.YtmekgcpdkbegnaaDoor.Sp
