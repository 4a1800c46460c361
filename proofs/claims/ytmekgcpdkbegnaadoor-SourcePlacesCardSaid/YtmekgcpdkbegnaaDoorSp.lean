import Derived.Test.YtmekgcpdkbegnaaDoorProg
import Derived.Test.YtmekgcpdkbegnaaDoorShelf
import Derived.WalkKit
import Derived.WalkSpells
import Derived.KernelRfl
import Derived.RowKit
import Derived.Below
import Derived.Lib.Hide
import Derived.Deep.OwnRows
import Derived.Laws.BytesArg
import Derived.Lib.ConvBytes
import Derived.Deep.LoopGhost
import Derived.Deep.QuietTactic
import Derived.BigQuiet
namespace Go.Proofs.YtmekgcpdkbegnaaDoor.Sp
open Go.RowKit

/-- A byte that a text may have. -/
def okN (n : Int) : Bool := n == 10 || (!decide (n < 32) && !decide (126 < n))
/-- Byte i. -/
def byteN (s : ByteArray) (i : Nat) : Int := ((s.data.toList.getD i 0).toNat : Int)
/-- The error of a text. -/
def chk (s : ByteArray) : Int := if 8192 < s.size then 2 else if s.data.toList.all (fun b => okN b.toNat) then 0 else 5

theorem getB {s : ByteArray} {i : Nat} (h : i < s.size) : ((s[i]'h).toNat : Int) = byteN s i := by
  unfold byteN
  have h2 : i < s.data.toList.length := by simpa using h
  rw [List.getD_eq_getElem?_getD, List.getElem?_eq_getElem h2]
  rfl
theorem chk_bad {s : ByteArray} {i : Nat} (hl : ¬ 8192 < s.size) (h : i < s.size) (hb : okN (byteN s i) = false) : chk s = 5 := by
  unfold chk
  rw [if_neg hl, if_neg]
  intro ha
  have h2 : i < s.data.toList.length := by simpa using h
  have := List.all_eq_true.1 ha _ (List.getElem_mem h2)
  unfold byteN at hb
  rw [List.getD_eq_getElem?_getD, List.getElem?_eq_getElem h2] at hb
  simp only [Option.getD_some] at hb
  rw [hb] at this
  cases this
theorem chk_ok {s : ByteArray} (hl : ¬ 8192 < s.size) (h : ∀ i, i < s.size → okN (byteN s i) = true) : chk s = 0 := by
  unfold chk
  rw [if_neg hl, if_pos]
  rw [List.all_eq_true]
  intro b hb
  obtain ⟨i, hi, rfl⟩ := List.getElem_of_mem hb
  have := h i (by simpa using hi)
  unfold byteN at this
  rw [List.getD_eq_getElem?_getD, List.getElem?_eq_getElem hi] at this
  exact this
theorem bytes_below (w : World) (e : TypeId) (s : ByteArray) : Below w.heap.size w (Lib.bytesWorld w e s) :=
  ⟨rfl, rfl, rfl, by rw [Lib.bytesWorld_size]; omega, fun k hk => Lib.bytesWorld_at_old w e s k hk⟩

set_option maxHeartbeats 4000000 in
set_option maxRecDepth 100000 in
theorem check_calls (s : ByteArray) (w : World) (hs : s.size < 9223372036854775807) :
    Calls Tryd.prog 7 #[.string s] w fun e w' => e = .returned (.int .i64 (chk s)) ∧ Below w.heap.size w w' := by
  by_cases hl : (8192 : Int) < (s.size : Int)
  · rw [show chk s = 2 from if_pos (by omega)]
    have hl' : decide ((8192 : Int) < (s.size : Int)) = true := decide_eq_true hl
    go_enter Tryd.func7, Tryd.ntmps7
    go_wp2_with fail
    go_ret
    exact ⟨rfl, Below.refl _ _⟩
  · have hl' : decide ((8192 : Int) < (s.size : Int)) = false := decide_eq_false hl
    have HL := Go.Lib.hid hl
    go_enter Tryd.func7, Tryd.ntmps7
    go_wp2_with fail
    go_loopg [10] s.size (fun k v wr => ∃ i : Nat, i + k = s.size ∧ v = .int .i64 i ∧ Hid (Below w.heap.size w wr) ∧ Hid (∀ j, j < i → okN (byteN s j) = true))
    case atStart => exact ⟨0, by omega, rfl, Go.Lib.hid (Below.refl _ _), Go.Lib.hid (fun j hj => absurd hj (by omega))⟩
    case round =>
      obtain ⟨i, hi, rfl, hb, ho⟩ := hrel
      by_cases hlt : i < s.size
      · have hgb := getB hlt
        have HB0 := Go.Lib.hid hgb
        generalize hc : byteN s i = c at *
        have HC := Go.Lib.hid hc
        clear hc
        by_cases h10 : c = 10
        · have h10_b : (c == 10) = true := beq_iff_eq.mpr h10
          have h10_c : (c != 10) = false := bne_eq_false_iff_eq.mpr h10
          have hok : Hid (okN (byteN s i) = true) := Go.Lib.hid (by rw [HC.out]; unfold okN; rw [h10_b]; rfl)
          clear h10
          go_wp2_with fail
          go_roundg (gk - 1)
          case measure => omega
          case rel => exact ⟨i + 1, by omega, by go_num, hb, Go.Lib.hid (fun j hj => if e : j = i then e ▸ hok.out else ho.out j (by omega))⟩
        · have h10_b : (c == 10) = false := beq_eq_false_iff_ne.mpr h10
          have h10_c : (c != 10) = true := bne_iff_ne.mpr h10
          clear h10
          by_cases h32 : c < 32
          · have h32_b : decide (c < 32) = true := decide_eq_true h32
            have hno : Hid (okN (byteN s i) = false) := Go.Lib.hid (by rw [HC.out]; unfold okN; rw [h10_b, h32_b]; rfl)
            clear h32
            go_wp2_with fail
            go_ret
            exact ⟨by rw [chk_bad (by have := HL.out; omega) hlt hno.out]; rfl, hb.out⟩
          · have h32_b : decide (c < 32) = false := decide_eq_false h32
            clear h32
            by_cases h126 : 126 < c
            · have h126_b : decide (126 < c) = true := decide_eq_true h126
              have hno : Hid (okN (byteN s i) = false) := Go.Lib.hid (by rw [HC.out]; unfold okN; rw [h10_b, h32_b, h126_b]; rfl)
              clear h126
              go_wp2_with fail
              go_ret
              exact ⟨by rw [chk_bad (by have := HL.out; omega) hlt hno.out]; rfl, hb.out⟩
            · have h126_b : decide (126 < c) = false := decide_eq_false h126
              have hok : Hid (okN (byteN s i) = true) := Go.Lib.hid (by rw [HC.out]; unfold okN; rw [h10_b, h32_b, h126_b]; rfl)
              clear h126
              go_wp2_with fail
              go_roundg (gk - 1)
              case measure => omega
              case rel => exact ⟨i + 1, by omega, by go_num, hb, Go.Lib.hid (fun j hj => if e : j = i then e ▸ hok.out else ho.out j (by omega))⟩
      · go_wp2_with fail
        go_ret
        exact ⟨by rw [chk_ok (by have := HL.out; omega) (fun j hj => ho.out j (by omega))]; rfl, hb.out⟩

set_option maxHeartbeats 4000000 in
set_option maxRecDepth 100000 in
theorem error_calls (s : ByteArray) (w : World) (hs : s.size < 9223372036854775807) :
    Calls Tryd.prog 5 #[.string s] w fun e w' => e = .returned (.int .i64 (chk s)) ∧ Below w.heap.size w w' := by
  by_cases hl : (8192 : Int) < (s.size : Int)
  · rw [show chk s = 2 from if_pos (by omega)]
    have hl' : decide ((8192 : Int) < (s.size : Int)) = true := decide_eq_true hl
    go_enter Tryd.func5, Tryd.ntmps5
    go_wp2_with fail
    go_ret
    exact ⟨rfl, Below.refl _ _⟩
  · have hl' : decide ((8192 : Int) < (s.size : Int)) = false := decide_eq_false hl
    have HL := Go.Lib.hid hl
    have hcv := Lib.run_convert_string_bytes (P := Tryd.prog) w 9 34 5 s (u := .string) Tryd.underlying9 Tryd.underlying34 Tryd.underlying5
    have hcell := fun (i : Nat) (h : i < s.size) => Lib.bytesWorld_cell w 5 s i h
    have hbw := Go.Lib.hid (bytes_below w 5 s)
    go_enter Tryd.func5, Tryd.ntmps5
    go_wp2_with fail
    go_loopg [11] s.size (fun k v wr => ∃ i : Nat, i + k = s.size ∧ v = .int .i64 i ∧ wr = Lib.bytesWorld w 5 s ∧ Hid (∀ j, j < i → okN (byteN s j) = true))
    case atStart => exact ⟨0, by omega, rfl, rfl, Go.Lib.hid (fun j hj => absurd hj (by omega))⟩
    case round =>
      obtain ⟨i, hi, rfl, rfl, ho⟩ := hrel
      by_cases hlt : i < s.size
      · have hgb := hcell i hlt
        rw [show ((s.data.toList.getD i 0).toNat : Int) = byteN s i from rfl] at hgb
        clear hcell hcv
        have HB0 := Go.Lib.hid hgb
        generalize hc : byteN s i = c at *
        have HC := Go.Lib.hid hc
        clear hc
        by_cases h10 : c = 10
        · have h10_b : (c == 10) = true := beq_iff_eq.mpr h10
          have h10_c : (c != 10) = false := bne_eq_false_iff_eq.mpr h10
          have hok : Hid (okN (byteN s i) = true) := Go.Lib.hid (by rw [HC.out]; unfold okN; rw [h10_b]; rfl)
          clear h10
          go_wp2_with fail
          go_roundg (gk - 1)
          case measure => omega
          case rel => exact ⟨i + 1, by omega, by go_num, rfl, Go.Lib.hid (fun j hj => if e : j = i then e ▸ hok.out else ho.out j (by omega))⟩
        · have h10_b : (c == 10) = false := beq_eq_false_iff_ne.mpr h10
          have h10_c : (c != 10) = true := bne_iff_ne.mpr h10
          clear h10
          by_cases h32 : c < 32
          · have h32_b : decide (c < 32) = true := decide_eq_true h32
            have hno : Hid (okN (byteN s i) = false) := Go.Lib.hid (by rw [HC.out]; unfold okN; rw [h10_b, h32_b]; rfl)
            clear h32
            go_wp2_with fail
            go_ret
            exact ⟨by rw [chk_bad (by have := HL.out; omega) hlt hno.out]; rfl, hbw.out⟩
          · have h32_b : decide (c < 32) = false := decide_eq_false h32
            clear h32
            by_cases h126 : 126 < c
            · have h126_b : decide (126 < c) = true := decide_eq_true h126
              have hno : Hid (okN (byteN s i) = false) := Go.Lib.hid (by rw [HC.out]; unfold okN; rw [h10_b, h32_b, h126_b]; rfl)
              clear h126
              go_wp2_with fail
              go_ret
              exact ⟨by rw [chk_bad (by have := HL.out; omega) hlt hno.out]; rfl, hbw.out⟩
            · have h126_b : decide (126 < c) = false := decide_eq_false h126
              have hok : Hid (okN (byteN s i) = true) := Go.Lib.hid (by rw [HC.out]; unfold okN; rw [h10_b, h32_b, h126_b]; rfl)
              clear h126
              go_wp2_with fail
              go_roundg (gk - 1)
              case measure => omega
              case rel => exact ⟨i + 1, by omega, by go_num, rfl, Go.Lib.hid (fun j hj => if e : j = i then e ▸ hok.out else ho.out j (by omega))⟩
      · go_wp2_with fail
        go_ret
        exact ⟨by rw [chk_ok (by have := HL.out; omega) (fun j hj => ho.out j (by omega))]; rfl, hbw.out⟩

end Go.Proofs.YtmekgcpdkbegnaaDoor.Sp
