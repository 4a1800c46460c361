import Derived.Test.YtmekgcpdkbegnaaDoorSp
namespace Go.Proofs.YtmekgcpdkbegnaaDoor.Sp
open Go.RowKit

/-- The place of byte k. -/
def plN (s : ByteArray) : Nat → Int × Int
  | 0 => (1, 1)
  | k + 1 => if byteN s k = 10 then ((plN s k).1 + 1, 1) else ((plN s k).1, (plN s k).2 + 1)

theorem plN_bound (s : ByteArray) : ∀ k, 1 ≤ (plN s k).1 ∧ (plN s k).1 ≤ k + 1 ∧ 1 ≤ (plN s k).2 ∧ (plN s k).2 ≤ k + 1
  | 0 => by simp [plN]
  | k + 1 => by
    have := plN_bound s k
    unfold plN
    split
    · simp; omega
    · simp; omega

set_option maxHeartbeats 4000000 in
set_option maxRecDepth 100000 in
theorem place_calls (s : ByteArray) (at_ : Nat) (w : World) (hs : at_ ≤ s.size) (hz : s.size ≤ 8192) :
    Calls Tryd.prog 8 #[.string s, .int .i64 at_] w fun e w' => e = .returned (.tuple #[.int .i64 (plN s at_).1, .int .i64 (plN s at_).2]) ∧ Below w.heap.size w w' := by
  go_enter Tryd.func8, Tryd.ntmps8
  go_wp2_with fail
  go_loopg [6, 7, 8] at_ (fun k v6 v7 v8 wr => ∃ (i : Nat) (a b : Int), i + k = at_ ∧ v6 = .int .i64 a ∧ v7 = .int .i64 b ∧ v8 = .int .i64 i ∧ Hid (Below w.heap.size w wr) ∧ Hid (plN s i = (a, b)) ∧ 1 ≤ a ∧ a ≤ i + 1 ∧ 1 ≤ b ∧ b ≤ i + 1)
  case atStart => exact ⟨0, 1, 1, by omega, rfl, rfl, rfl, Go.Lib.hid (Below.refl _ _), Go.Lib.hid rfl, by omega, by omega, by omega, by omega⟩
  case round =>
    obtain ⟨i, a, b, hi, rfl, rfl, rfl, hb, ho, ha1, ha2, hb1, hb2⟩ := hrel
    by_cases hlt : i < at_
    · have hlt2 : i < s.size := by omega
      have hgb := getB hlt2
      generalize hc : byteN s i = c at *
      have HC := Go.Lib.hid hc
      clear hc
      by_cases h10 : c = 10
      · have h10_b : (c == 10) = true := beq_iff_eq.mpr h10
        have hok : Hid (plN s (i + 1) = (a + 1, 1)) := Go.Lib.hid (by unfold plN; rw [HC.out, if_pos h10, ho.out])
        clear h10
        go_wp2_with fail
        go_roundg (gk - 1)
        case measure => omega
        case rel => exact ⟨i + 1, a + 1, 1, by omega, by go_num, by go_num, by go_num, hb, hok, by omega, by omega, by omega, by omega⟩
      · have h10_b : (c == 10) = false := beq_eq_false_iff_ne.mpr h10
        have hok : Hid (plN s (i + 1) = (a, b + 1)) := Go.Lib.hid (by unfold plN; rw [HC.out, if_neg h10, ho.out])
        clear h10
        go_wp2_with fail
        go_roundg (gk - 1)
        case measure => omega
        case rel => exact ⟨i + 1, a, b + 1, by omega, by go_num, by go_num, by go_num, hb, hok, by omega, by omega, by omega, by omega⟩
    · go_wp2_with fail
      go_ret2
      obtain rfl : i = at_ := by omega
      exact ⟨by rw [ho.out]; rfl, hb.out⟩

/-- What OffsetOf returns: the byte at the place, or -1. -/
def OffPost (s : ByteArray) (line col : Int) (e : Ending) : Prop := (∃ i : Nat, i ≤ s.size ∧ plN s i = (line, col) ∧ e = .returned (.int .i64 i)) ∨ (e = .returned (.int .i64 (-1)) ∧ ∀ i : Nat, i ≤ s.size → plN s i ≠ (line, col))

set_option maxHeartbeats 4000000 in
set_option maxRecDepth 100000 in
theorem offset_calls (s : ByteArray) (line col : Int) (w : World) (hz : s.size ≤ 8192) :
    Calls Tryd.prog 9 #[.string s, .int .i64 line, .int .i64 col] w fun e w' => OffPost s line col e ∧ Below w.heap.size w w' := by
  go_enter Tryd.func9, Tryd.ntmps9
  go_wp2_with fail
  go_loopg [7] (s.size + 1) (fun k v wr => ∃ i : Nat, i + k = s.size + 1 ∧ v = .int .i64 i ∧ Hid (Below w.heap.size w wr) ∧ Hid (∀ j, j < i → plN s j ≠ (line, col)))
  case atStart => exact ⟨0, by omega, rfl, Go.Lib.hid (Below.refl _ _), Go.Lib.hid (fun j hj => absurd hj (by omega))⟩
  case round =>
    obtain ⟨i, hi, rfl, hb, ho⟩ := hrel
    by_cases hlt : i ≤ s.size
    · go_wp2_with fail
      refine (place_calls s i wr hlt hz).mono ?_
      rintro e w1 ⟨rfl, hb1⟩
      generalize hp : plN s i = p
      obtain ⟨a, b⟩ := p
      have HP := Go.Lib.hid hp
      have HB1 := Go.Lib.hid (hb.out.trans (hb1.mono hb.out.size))
      clear hp hb1
      by_cases hab : a = line
      · by_cases hbc : b = col
        · subst hab hbc
          go_wp2_with fail
          go_ret
          exact ⟨.inl ⟨i, hlt, HP.out, rfl⟩, HB1.out⟩
        · have hbc_b : (b == col) = false := beq_eq_false_iff_ne.mpr hbc
          have hab_b : (a == line) = true := beq_iff_eq.mpr hab
          have hno : Hid (plN s i ≠ (line, col)) := Go.Lib.hid (by rw [HP.out]; intro h; exact hbc (congrArg Prod.snd h))
          clear hab hbc
          go_wp2_with fail
          go_roundg (gk - 1)
          case measure => omega
          case rel => exact ⟨i + 1, by omega, by go_num, HB1, Go.Lib.hid (fun j hj => if e : j = i then e ▸ hno.out else ho.out j (by omega))⟩
      · have hab_b : (a == line) = false := beq_eq_false_iff_ne.mpr hab
        have hno : Hid (plN s i ≠ (line, col)) := Go.Lib.hid (by rw [HP.out]; intro h; exact hab (congrArg Prod.fst h))
        clear hab
        go_wp2_with fail
        go_roundg (gk - 1)
        case measure => omega
        case rel => exact ⟨i + 1, by omega, by go_num, HB1, Go.Lib.hid (fun j hj => if e : j = i then e ▸ hno.out else ho.out j (by omega))⟩
    · go_wp2_with fail
      go_ret
      exact ⟨.inr ⟨rfl, fun i hi => ho.out i (by omega)⟩, hb.out⟩
end Go.Proofs.YtmekgcpdkbegnaaDoor.Sp
