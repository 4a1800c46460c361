/- The digest of a string and that of the reference are one string; the contracts of both functions and the law. -/
import Derived.Test.YtnnjflcgcdeidaaProg
import Derived.WalkKit
import Derived.WalkSpells
import Derived.KernelRfl
import Derived.RowKit
import Derived.Below
import Derived.Lib.Hide
import Derived.Deep.OwnRows
import Derived.Laws.BytesArg
import Derived.Laws.BitsLemmas
namespace Go.Proofs.Ytnnjflcgcdeidaa.Dg
open Go.RowKit

/-! ### plain -/
def HEX : ByteArray := { data := #[48, 49, 50, 51, 52, 53, 54, 55, 56, 57, 97, 98, 99, 100, 101, 102] }
def hx (m : Int) : UInt8 := HEX.data.toList.getD m.toNat 0

def byteAt (s : ByteArray) (k : Nat) : Int := if h : k < s.size then ((s[k]'h).toNat : Int) else s.size
def hmix (h n : Int) : Int := IntKind.u64.wrap (bits BinOp.xor IntKind.u64 h n * 1099511628211)
def hashTo (s : ByteArray) : Nat → Int
  | 0 => 14695981039346656037
  | k + 1 => hmix (hashTo s k) (byteAt s k)

theorem wrapU (n : Int) : IntKind.u64.wrap n = n % 18446744073709551616 := by
  simp [IntKind.wrap, IntKind.bits, IntKind.signed]

theorem hmix_range (h n : Int) : 0 ≤ hmix h n ∧ hmix h n < 18446744073709551616 := by
  unfold hmix; rw [wrapU]; omega
theorem hashTo_range (s : ByteArray) (k : Nat) : 0 ≤ hashTo s k ∧ hashTo s k < 18446744073709551616 := by
  cases k with
  | zero => exact ⟨by simp [hashTo], by simp [hashTo]⟩
  | succ k => exact hmix_range _ _

theorem sum_form (X : Int) : IntKind.u64.wrap (IntKind.u64.wrap (IntKind.u64.wrap (X * 1099511627776) + IntKind.u64.wrap (X * 256)) + IntKind.u64.wrap (X * 179)) = IntKind.u64.wrap (X * 1099511628211) := by
  simp only [wrapU]; omega

theorem byte_in {s : ByteArray} {k : Nat} (h : k < s.size) : byteAt s k = IntKind.u64.wrap ((s[k]'h).toNat : Int) := by
  have := (s[k]'h).toNat_lt
  unfold byteAt
  rw [dif_pos h, wrapU]
  omega
theorem byte_end {s : ByteArray} {k : Nat} (h : ¬ k < s.size) : byteAt s k = (s.size : Int) := by
  unfold byteAt
  rw [dif_neg h]

theorem and15 (y : Int) : bits BinOp.and IntKind.u64 y 15 = y % 16 := by
  have h2 : (BitVec.ofInt 64 (15 : Int)).toNat = 2 ^ 4 - 1 := by decide
  have h1 : (BitVec.ofInt 64 y).toNat = (y % 18446744073709551616).toNat := by
    rw [BitVec.toNat_ofInt]; rfl
  show IntKind.u64.wrap ((BitVec.ofInt 64 y &&& BitVec.ofInt 64 (15 : Int)).toNat : Int) = _
  rw [BitVec.toNat_and, h1, h2, Nat.and_two_pow_sub_one_eq_mod, wrapU]
  omega

/-- The last j digits. -/
def lowd (H : Int) : Nat → List UInt8
  | 0 => []
  | j + 1 => hx (H / 16 ^ j % 16) :: lowd H j
theorem lowd_length (H : Int) (j : Nat) : (lowd H j).length ≤ j := by
  induction j with
  | zero => simp [lowd]
  | succ j ih => simp [lowd, ih]
theorem push_front (x : UInt8) (l : List UInt8) : (({ data := #[x] } : ByteArray) ++ { data := l.toArray }) = { data := (x :: l).toArray } := by
  apply ByteArray.ext
  simp
def dig (H : Int) (i : Nat) : Int := ((hx (H / 2 ^ (60 - 4 * i) % 16)).toNat : Int)
/-- The cells of the digest: digit i, once it is written. -/
def cellOf (H : Int) (j i : Nat) : Value := .int .u8 (if i < j then dig H i else 0)

theorem cell_step (H : Int) (j i : Nat) : (if i = j then Value.int .u8 (hx (H / 2 ^ (60 - 4 * j) % 16)).toNat else cellOf H j i) = cellOf H (j + 1) i := by
  unfold cellOf
  by_cases h : i = j
  · subst h
    rw [if_pos rfl, if_pos (by omega)]
    rfl
  · rw [if_neg h]
    by_cases h2 : i < j
    · rw [if_pos h2, if_pos (by omega)]
    · rw [if_neg h2, if_neg (by omega)]

theorem digits_eq (H : Int) : (strOfNums ((List.range 16).map (dig H))) = ⟨(lowd H 16).toArray⟩ := by
  unfold strOfNums
  simp [List.range, List.range.loop, dig, lowd]

/-! ### The walks -/
theorem slice_hex (m : Int) (h0 : 0 ≤ m) (h1 : m < 16) (w : World) :
    Sem.run Try.prog (Instr.slice 9 (Value.string { data := #[48, 49, 50, 51, 52, 53, 54, 55, 56, 57, 97, 98, 99, 100, 101, 102] }) (some (Value.int IntKind.u64 m)) (some (Value.int IntKind.u64 (m + 1))) none) w = .ok (.string ⟨#[hx m]⟩) w := by
  have h : m = 0 ∨ m = 1 ∨ m = 2 ∨ m = 3 ∨ m = 4 ∨ m = 5 ∨ m = 6 ∨ m = 7 ∨ m = 8 ∨ m = 9 ∨ m = 10 ∨ m = 11 ∨ m = 12 ∨ m = 13 ∨ m = 14 ∨ m = 15 := by omega
  rcases h with rfl | rfl | rfl | rfl | rfl | rfl | rfl | rfl | rfl | rfl | rfl | rfl | rfl | rfl | rfl | rfl <;> (show _ = _; kernel_rfl)

theorem hx_at (m : Int) (h1 : m.toNat < 16) : ∀ h : m.toNat < ByteArray.size { data := #[48, 49, 50, 51, 52, 53, 54, 55, 56, 57, 97, 98, 99, 100, 101, 102] }, (({ data := #[48, 49, 50, 51, 52, 53, 54, 55, 56, 57, 97, 98, 99, 100, 101, 102] } : ByteArray)[m.toNat]'h) = hx m := by
  intro h
  unfold hx HEX
  generalize m.toNat = n at *
  have hn : n = 0 ∨ n = 1 ∨ n = 2 ∨ n = 3 ∨ n = 4 ∨ n = 5 ∨ n = 6 ∨ n = 7 ∨ n = 8 ∨ n = 9 ∨ n = 10 ∨ n = 11 ∨ n = 12 ∨ n = 13 ∨ n = 14 ∨ n = 15 := by omega
  rcases hn with rfl | rfl | rfl | rfl | rfl | rfl | rfl | rfl | rfl | rfl | rfl | rfl | rfl | rfl | rfl | rfl <;> rfl

/-- What the loops hold of the hash. -/
def HashAt (s : ByteArray) (k : Nat) (h : Value) : Prop := h = .int .u64 (hashTo s k)

def Low (H : Int) (j : Nat) (h t : Value) : Prop := h = .int .u64 (H / 16 ^ j) ∧ t = .string ⟨(lowd H j).toArray⟩

theorem ret_str {a b : ByteArray} (h : a = b) : Ending.returned (.string a) = .returned (.string b) := by rw [h]

theorem low_step (H : Int) (j : Nat) : H / 16 ^ j / 16 = H / 16 ^ (j + 1) := by
  rw [Int.ediv_ediv, if_neg (by have : (0 : Int) ≤ 16 ^ j := Int.pow_nonneg (by omega); omega), Int.sub_zero, Int.pow_succ]

set_option maxRecDepth 100000 in
theorem sum_any (s : ByteArray) (w : World) (hs : s.size ≤ 140737488351232) :
    Calls Try.prog 21 #[.string s] w fun e w' => e = .returned (.string ⟨(lowd (hashTo s (s.size + 1)) 16).toArray⟩) ∧ w = w' := by
  go_enter Try.func21, Try.ntmps21
  go_wp2
  go_loop [3, 4] (fun h i => ∃ (k : Nat), k ≤ s.size + 1 ∧ i = .int .i64 k ∧ HashAt s k h) (fun _ i => s.size + 1 - (intOf i).toNat)
  case atStart => exact ⟨0, by omega, rfl, rfl⟩
  case round =>
    obtain ⟨k, hk, rfl, hh⟩ := hrel
    have hr := hashTo_range s k
    unfold HashAt at hh
    subst hh
    obtain ⟨hr0, hr1⟩ := hr
    by_cases h1 : k < s.size
    · go_wp2
      go_round
      case rel => exact ⟨k + 1, by omega, by go_num, by unfold HashAt; rw [sum_form]; simp only [hashTo, hmix, byte_in h1]⟩
      case measure => simp [intOf]; omega
    · by_cases h2 : k ≤ s.size
      · go_wp2
        go_round
        case rel => exact ⟨k + 1, by omega, by go_num, by unfold HashAt; rw [sum_form]; simp only [hashTo, hmix, byte_end h1]⟩
        case measure => simp [intOf]; omega
      · obtain rfl : k = s.size + 1 := by omega
        generalize hH : hashTo s (s.size + 1) = H at *
        have hH' := Go.Lib.hid hH
        clear hH
        have hd : decide ((s.size : Int) + 1 ≤ (s.size : Int)) = false := by simp; omega
        go_wp2
        go_loop [3, 6, 7] (fun h t i => ∃ (j : Nat), j ≤ 16 ∧ i = .int .i64 j ∧ Low H j h t) (fun _ _ i => 16 - (intOf i).toNat)
        case atStart => exact ⟨0, by omega, rfl, by simp [Low, lowd]⟩
        case round =>
          obtain ⟨j, hj, rfl, hl⟩ := hrel
          have hstep := Go.Lib.hid (low_step H j)
          have hy0 : 0 ≤ H / 16 ^ j := Int.ediv_nonneg hr0 (Int.pow_nonneg (by omega))
          obtain ⟨h3, h4⟩ := hl
          subst h3 h4
          have hlow := Go.Lib.hid (show lowd H (j + 1) = hx (H / 16 ^ j % 16) :: lowd H j from rfl)
          have hlen := lowd_length H j
          have hy1 : H / 16 ^ j < 18446744073709551616 := Int.lt_of_le_of_lt (Int.ediv_le_self _ hr0) hr1
          generalize H / 16 ^ j = y at *
          have hsl := slice_hex (y % 16) (by omega) (by omega)
          by_cases hlt : j < 16
          · go_wp2
            go_round
            case rel => exact ⟨j + 1, by omega, by go_num, by rw [← hstep.out], by rw [hlow.out]; exact congrArg Value.string (push_front _ _)⟩
            case measure => simp [intOf]; omega
          · obtain rfl : j = 16 := by omega
            go_wp2
            go_ret
            exact ⟨ret_str (by rw [hH'.out]), rfl⟩

theorem conv_any (H : Int) (b : Nat) (w : World) (hrow : w.rowIs b 112 16 (cellOf H 16)) :
    (convert 113 9 (.slice (some ⟨b, 0, none⟩) 16 16)).run Try.prog w = .ok (.string ⟨(lowd H 16).toArray⟩) w := by
  rw [← digits_eq]
  refine run_convert_bytes_arg w 113 5 Try.underlying113 Try.underlying5 b 0 16 16 _ (by simp) ?_ 9 Try.underlying9
  intro i hi
  rw [Nat.zero_add, hrow.cell hi]
  unfold cellOf
  rw [if_pos hi, List.getD_eq_getElem?_getD]
  simp [hi]

theorem zeros_at (H : Int) (i : Nat) (hi : i < 16) : (#[Value.int .u8 0, .int .u8 0, .int .u8 0, .int .u8 0, .int .u8 0, .int .u8 0, .int .u8 0, .int .u8 0, .int .u8 0, .int .u8 0, .int .u8 0, .int .u8 0, .int .u8 0, .int .u8 0, .int .u8 0, .int .u8 0] : Array Value)[i]? = some (cellOf H 0 i) := by
  have hn : i = 0 ∨ i = 1 ∨ i = 2 ∨ i = 3 ∨ i = 4 ∨ i = 5 ∨ i = 6 ∨ i = 7 ∨ i = 8 ∨ i = 9 ∨ i = 10 ∨ i = 11 ∨ i = 12 ∨ i = 13 ∨ i = 14 ∨ i = 15 := by omega
  rcases hn with rfl | rfl | rfl | rfl | rfl | rfl | rfl | rfl | rfl | rfl | rfl | rfl | rfl | rfl | rfl | rfl <;> rfl

set_option maxRecDepth 100000 in
theorem digest_any (s : ByteArray) (w : World) (hs : s.size ≤ 140737488351232) :
    Calls Try.prog 20 #[.string s] w fun e w' => e = .returned (.string ⟨(lowd (hashTo s (s.size + 1)) 16).toArray⟩) ∧ Below w.heap.size w w' := by
  go_enter Try.func20, Try.ntmps20
  go_wp2
  go_loop [3, 9] (fun h i => ∃ (k : Nat), k ≤ s.size ∧ i = .int .i64 k ∧ HashAt s k h) (fun _ i => s.size + 1 - (intOf i).toNat)
  case atStart => exact ⟨0, by omega, rfl, rfl⟩
  case round =>
    obtain ⟨k, hk, rfl, hh⟩ := hrel
    unfold HashAt at hh
    subst hh
    by_cases h1 : k < s.size
    · go_wp2
      go_round
      case rel => exact ⟨k + 1, by omega, by go_num, by unfold HashAt; simp only [hashTo, hmix, byte_in h1]⟩
      case measure => simp [intOf]; omega
    · obtain rfl : k = s.size := by omega
      have hend : IntKind.u64.wrap (bits BinOp.xor IntKind.u64 (hashTo s s.size) ↑s.size * 1099511628211) = hashTo s (s.size + 1) := by simp only [hashTo, hmix, byte_end h1]
      have hr := Go.Lib.hid (hashTo_range s (s.size + 1))
      generalize hH : hashTo s (s.size + 1) = H at *
      have hH' := Go.Lib.hid hH
      clear hH
      go_wp2
      go_loopw [6, 26] (fun _ i wr => ∃ (j : Nat), j ≤ 16 ∧ i = .int .i64 j ∧ Below w.heap.size w wr ∧ wr.rowIs w.heap.size 112 16 (cellOf H j)) (fun _ i _ => 16 - (intOf i).toNat)
      case atStart => exact ⟨0, by omega, rfl, (Below.refl _ _).alloc (Nat.le_refl _) _, (World.rowIs_alloc w _ 112 _ (fun i hi => zeros_at H i hi))⟩
      case round =>
        obtain ⟨j, hj, rfl, hbel, hrow⟩ := hrel
        obtain ⟨hr0, hr1⟩ := hr.out
        have hc : ∀ i, i < 16 → wr.cell? ⟨w.heap.size, i, none⟩ = some (cellOf H j i) := fun i hi => hrow.cell hi
        have hf := fun i => hrow.frozen i
        by_cases hlt : j < 16
        · have hand := and15 (H / 2 ^ (60 - 4 * j))
          have hget := hx_at (H / 2 ^ (60 - 4 * j) % 16) (by omega)
          go_wp2
          go_roundw
          case rel => exact ⟨j + 1, by omega, by go_num, hbel.setCell (by simp) _, (hrow.set j _).congr fun i _ => cell_step H j i⟩
          case measure => simp [intOf]; omega
        · obtain rfl : j = 16 := by omega
          have hcv := conv_any H w.heap.size wr hrow
          go_wp2
          go_ret
          exact ⟨ret_str (by rw [hH'.out]), hbel⟩

def dgst (s : ByteArray) : ByteArray := ⟨(lowd (hashTo s (s.size + 1)) 16).toArray⟩
def AF : ByteArray := { data := #[97, 102, 54, 51, 98, 100, 52, 99, 56, 54, 48, 49, 98, 55, 100, 102] }
theorem empty_digest : dgst { data := #[] } = AF := by decide +kernel

theorem law_walk (s : ByteArray) (w : World) (hs : s.size ≤ 140737488351232) :
    Calls Try.prog 5 #[.string s] w fun e w' => e = .returned (.bool true) ∧ Below w.heap.size w w' := by
  have hE : ∀ w : World, Calls Try.prog 20 #[.string { data := #[] }] w fun e w' => e = .returned (.string AF) ∧ Below w.heap.size w w' := fun w => by
    rw [← empty_digest]; exact digest_any _ w (by decide)
  have hD : ∀ w : World, Calls Try.prog 20 #[.string s] w fun e w' => e = .returned (.string (dgst s)) ∧ Below w.heap.size w w' := fun w => digest_any s w hs
  have hS : ∀ w : World, Calls Try.prog 21 #[.string s] w fun e w' => e = .returned (.string (dgst s)) ∧ w = w' := fun w => sum_any s w hs
  have HD := Go.Lib.hid hD
  have HE := Go.Lib.hid hE
  have HS := Go.Lib.hid hS
  have h1 : (AF.toList == [97, 102, 54, 51, 98, 100, 52, 99, 56, 54, 48, 49, 98, 55, 100, 102]) = true := by decide +kernel
  clear hD hE hS
  go_enter Try.func5, Try.ntmps5
  go_wp2_with fail
  refine (HE.out _).mono ?_
  rintro e w1 ⟨rfl, hb1⟩
  go_wp2_with fail
  refine (HD.out _).mono ?_
  rintro e w2 ⟨rfl, hb2⟩
  go_wp2_with fail
  refine (HS.out _).mono ?_
  rintro e w3 ⟨rfl, rfl⟩
  go_wp2
  go_ret
  exact ⟨by simp, hb1.trans (hb2.mono hb1.size)⟩
end Go.Proofs.Ytnnjflcgcdeidaa.Dg
