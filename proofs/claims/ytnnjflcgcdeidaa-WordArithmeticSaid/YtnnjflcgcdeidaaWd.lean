/- Plain lemmas on words of 31 bits: the mask of 31 bits is the remainder, and the wrap of a sum is that of the reference. No condition. -/
import Derived.Laws.BitsLemmas
import Derived.RowKit
namespace Go.Proofs.Ytnnjflcgcdeidaa.Wd
open Go.RowKit

theorem mask31 (x : Int) : Go.bits .and .i64 x 2147483647 = x % 2147483648 := by
  have h2 : (BitVec.ofInt 64 (2147483647 : Int)).toNat = 2 ^ 31 - 1 := by decide
  have h1 : (BitVec.ofInt 64 x).toNat = (x % 18446744073709551616).toNat := by
    rw [BitVec.toNat_ofInt]; rfl
  show IntKind.i64.wrap ((BitVec.ofInt 64 x &&& BitVec.ofInt 64 (2147483647 : Int)).toNat : Int) = _
  rw [BitVec.toNat_and, h1, h2, Nat.and_two_pow_sub_one_eq_mod, IntKind.wrap_i64]
  omega

theorem mask1 (x : Int) : Go.bits .and .i64 x 1 = x % 2 := by
  have h2 : (BitVec.ofInt 64 (1 : Int)).toNat = 2 ^ 1 - 1 := by decide
  have h1 : (BitVec.ofInt 64 x).toNat = (x % 18446744073709551616).toNat := by
    rw [BitVec.toNat_ofInt]; rfl
  show IntKind.i64.wrap ((BitVec.ofInt 64 x &&& BitVec.ofInt 64 (1 : Int)).toNat : Int) = _
  rw [BitVec.toNat_and, h1, h2, Nat.and_two_pow_sub_one_eq_mod, IntKind.wrap_i64]
  omega

/-- The word that is congruent to a number. -/
def wd (x : Int) : Int := (x + 1073741824) % 2147483648 - 1073741824

theorem wrap_eq (x : Int) : wrap64 (Go.bits .and .i64 (wrap64 (x + 1073741824)) 2147483647 - 1073741824) = wd x := by
  rw [mask31]
  unfold wrap64 wd
  omega

theorem wd_range (x : Int) : -1073741824 ≤ wd x ∧ wd x ≤ 1073741823 := by
  unfold wd
  omega

theorem tmod_eq (a b : Int) (_hb : 0 < b) : Int.tmod a b = if 0 ≤ a then a % b else -((-a) % b) := by
  split
  · rename_i h
    exact Int.tmod_eq_emod_of_nonneg h
  · rename_i h
    have h' : 0 ≤ -a := by omega
    have := Int.tmod_eq_emod_of_nonneg (b := b) h'
    rw [Int.neg_tmod] at this
    omega

theorem wd_ref (a : Int) : (if (Int.tmod a 2147483648) < 0 then (if (wrap64 ((Int.tmod a 2147483648) + 2147483648)) ≥ 1073741824 then (some (wrap64 ((wrap64 ((Int.tmod a 2147483648) + 2147483648)) - 2147483648))) else (some (wrap64 ((Int.tmod a 2147483648) + 2147483648)))) else (if (Int.tmod a 2147483648) ≥ 1073741824 then (some (wrap64 ((Int.tmod a 2147483648) - 2147483648))) else (some (Int.tmod a 2147483648)))) = some (wd a) := by
  rw [tmod_eq a 2147483648 (by omega)]
  unfold wrap64 wd
  repeat' split
  all_goals (congr 1; omega)

theorem wf_range (a : Int) (h : (Lit.int .i64 a).wf = true) : -9223372036854775808 ≤ a ∧ a ≤ 9223372036854775807 := by
  simp [Lit.wf, IntKind.min, IntKind.max, IntKind.bits, IntKind.signed] at h
  omega
end Go.Proofs.Ytnnjflcgcdeidaa.Wd
