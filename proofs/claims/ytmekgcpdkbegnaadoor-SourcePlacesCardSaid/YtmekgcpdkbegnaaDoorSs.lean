import Derived.Test.YtmekgcpdkbegnaaDoorSr
import Derived.Lib.SplitLaws
namespace Go.Proofs.YtmekgcpdkbegnaaDoor.Sp
open Go.RowKit
set_option linter.unusedVariables false
set_option linter.unusedSimpArgs false

/-- The line feed. -/
abbrev LF : ByteArray := ⟨#[10]⟩
/-- The lines of a text. -/
def lines (s : ByteArray) : List ByteArray := Lib.splitB LF 0 (Lib.countB s LF) s

theorem lines_length (s : ByteArray) : (lines s).length = Lib.countB s LF + 1 := Lib.splitB_all LF (by decide) 0 _ s rfl

theorem clone_calls (s : ByteArray) (w : World) (hs : s.size ≤ 281474976710656) :
    Calls Tryd.prog 19 #[.string s] w fun e w' => e = .returned (.string s) ∧ Below w.heap.size w w' := by
  go_enter Tryd.func19, Tryd.ntmps19
  go_wp2_with fail
  refine (Tryd.stringslite_Clone s w hs).mono ?_
  rintro e w1 ⟨rfl, hb⟩
  have HB := Go.Lib.hid hb
  clear hb
  go_wp2_with fail
  go_ret
  exact ⟨rfl, HB.out⟩

theorem blk_new' (w : World) (o : Obj) : (w.alloc o).heap[w.heap.size]? = some o := heap_alloc_new w o
theorem cell_row {w : World} {g : Nat} {t : TypeId} {cs : Array Value} (h : w.heap[g]? = some (.cells cs t (0, 0))) (i : Nat) : w.cell? ⟨g, i, none⟩ = cs[i]? := cell_of_row w g i cs t (0, 0) h

/-- bytealg.MaxLen is a number. -/
def MaxIs (w : World) : Prop := ∃ m, w.cell? ⟨0, 0, none⟩ = some (.int .i64 m)
theorem pw_cell_below' {w w1 : World} (h : Below w.heap.size w w1) {a : Addr} {v : Value} (hc : w.cell? a = some v) : w1.cell? a = some v := (h.cell (World.block_lt_of_cell? w a hc)).trans hc
theorem MaxIs.lift {w w' : World} (h : MaxIs w) (hb : Below w.heap.size w w') : MaxIs w' := by
  obtain ⟨m, h⟩ := h
  exact ⟨m, pw_cell_below' hb h⟩

set_option maxHeartbeats 4000000 in
set_option maxRecDepth 100000 in
theorem Line_ok (s : ByteArray) (j : Nat) (w : World) (hm : MaxIs w) (hj : j < (lines s).length) (hc : chk s = 0) (hz : s.size ≤ 8192) (hl : ∀ p ∈ lines s, p.size ≤ 8192) (hn5' : (lines s).length ≤ 8193) :
    Calls Tryd.prog 12 #[.string s, .int .i64 ((j : Int) + 1)] w fun e w' => e = .returned (.tuple #[.string ((lines s).getD j ⟨#[]⟩), .int .i64 0]) ∧ Below w.heap.size w w' := by
  have hpl : ((lines s).getD j ⟨#[]⟩).size ≤ 281474976710656 := by
    have := hl ((lines s).getD j ⟨#[]⟩) (by rw [List.getD_eq_getElem?_getD, List.getElem?_eq_getElem hj]; exact List.getElem_mem hj)
    omega
  generalize hp : (lines s).getD j ⟨#[]⟩ = piece at hpl ⊢
  have HP := Go.Lib.hid hp
  clear hp
  go_enter Tryd.func12, Tryd.ntmps12
  go_wp2_with fail
  refine (check_calls s w (by omega)).mono ?_
  rintro e w1 ⟨rfl, hb1⟩
  rw [hc]
  obtain ⟨m, hm1⟩ := hm.lift hb1
  have HB := Go.Lib.hid hb1
  clear hb1
  go_wp2_with fail
  refine (Tryd.strings_Split s LF m w1 (by omega) hm1 (by decide)).mono ?_
  rintro e w2 ⟨rfl, hw2⟩
  have hb2 : Below w1.heap.size w1 w2 := by rw [hw2]; exact (Below.refl _ _).alloc (Nat.le_refl _) _
  have hcell : w2.cell? ⟨w1.heap.size, j, none⟩ = some (.string piece) := by
    rw [hw2, ← HP.out]
    have hb := blk_new' w1 (.cells (List.map Value.string (lines s)).toArray 9 (0, 0))
    rw [show (w1.alloc (.cells (List.map Value.string (Lib.splitB LF 0 (Lib.countB s LF) s)).toArray 9 (0, 0))).cell? ⟨w1.heap.size, j, none⟩ = ((List.map Value.string (lines s)).toArray)[j]? from cell_row hb j]
    simp [List.getD_eq_getElem?_getD, List.getElem?_eq_getElem hj]
  rw [show Lib.countB s LF + 1 = (lines s).length from (lines_length s).symm]
  have HB2 := Go.Lib.hid (HB.out.trans (hb2.mono HB.out.size))
  have hjn : (j : Int) < ((lines s).length : Int) := by omega
  have hn5 : ((lines s).length : Int) ≤ 8193 := by omega
  clear hn5'
  generalize (lines s).length = n at *
  have HPL := Go.Lib.hid hpl
  clear hw2 hb2 hm1 hpl hl
  have h0 : decide ((j : Int) + 1 < 1) = false := decide_eq_false (by omega)
  have h1 : decide ((n : Int) < (j : Int) + 1) = false := decide_eq_false (by omega)
  go_wp2_with fail
  refine (clone_calls piece w2 HPL.out).mono ?_
  rintro e w3 ⟨rfl, hb3⟩
  have HB3 := Go.Lib.hid (HB2.out.trans (hb3.mono HB2.out.size))
  clear hb3
  go_wp2_with fail
  go_ret2
  exact ⟨rfl, HB3.out⟩

set_option maxHeartbeats 4000000 in
set_option maxRecDepth 100000 in
theorem Line_range (s : ByteArray) (line : Int) (w : World) (hm : MaxIs w) (hj : line < 1 ∨ ((lines s).length : Int) < line) (hc : chk s = 0) (hz : s.size ≤ 8192) (hn5' : (lines s).length ≤ 8193) :
    Calls Tryd.prog 12 #[.string s, .int .i64 line] w fun e w' => e = .returned (.tuple #[.string ⟨#[]⟩, .int .i64 4]) ∧ Below w.heap.size w w' := by
  go_enter Tryd.func12, Tryd.ntmps12
  go_wp2_with fail
  refine (check_calls s w (by omega)).mono ?_
  rintro e w1 ⟨rfl, hb1⟩
  rw [hc]
  obtain ⟨m, hm1⟩ := hm.lift hb1
  have HB := Go.Lib.hid hb1
  clear hb1
  go_wp2_with fail
  refine (Tryd.strings_Split s LF m w1 (by omega) hm1 (by decide)).mono ?_
  rintro e w2 ⟨rfl, hw2⟩
  have hb2 : Below w1.heap.size w1 w2 := by rw [hw2]; exact (Below.refl _ _).alloc (Nat.le_refl _) _
  rw [show Lib.countB s LF + 1 = (lines s).length from (lines_length s).symm]
  have HB2 := Go.Lib.hid (HB.out.trans (hb2.mono HB.out.size))
  generalize (lines s).length = n at *
  clear hw2 hb2 hm1
  by_cases hj0 : line < 1
  · have h0 : decide (line < 1) = true := decide_eq_true hj0
    clear hj hj0
    go_wp2_with fail
    go_ret2
    exact ⟨rfl, HB2.out⟩
  · have h0 : decide (line < 1) = false := decide_eq_false hj0
    have h1 : decide ((n : Int) < line) = true := decide_eq_true (by omega)
    clear hj hj0
    go_wp2_with fail
    go_ret2
    exact ⟨rfl, HB2.out⟩

set_option maxHeartbeats 4000000 in
set_option maxRecDepth 100000 in
theorem Line_bad (s : ByteArray) (line : Int) (w : World) (hz : s.size < 9223372036854775807) (hc : ¬ chk s = 0) :
    Calls Tryd.prog 12 #[.string s, .int .i64 line] w fun e w' => e = .returned (.tuple #[.string ⟨#[]⟩, .int .i64 (chk s)]) ∧ Below w.heap.size w w' := by
  have hz' := hz
  generalize hcc : chk s = c at hc ⊢
  have HCC := Go.Lib.hid hcc
  clear hcc
  go_enter Tryd.func12, Tryd.ntmps12
  go_wp2_with fail
  refine (check_calls s w hz).mono ?_
  rintro e w1 ⟨rfl, hb1⟩
  rw [HCC.out]
  have HB := Go.Lib.hid hb1
  have h0 : (c == 0) = false := beq_eq_false_iff_ne.mpr hc
  have h1 : (c != 0) = true := bne_iff_ne.mpr hc
  clear hb1 hc
  go_wp2_with fail
  go_ret2
  exact ⟨rfl, HB.out⟩

set_option maxHeartbeats 4000000 in
set_option maxRecDepth 100000 in
theorem Place_bad (s : ByteArray) (k : Int) (w : World) (hz : s.size < 9223372036854775807) (hc : ¬ chk s = 0) :
    Calls Tryd.prog 4 #[.string s, .int .i64 k] w fun e w' => e = .returned (.tuple #[.int .i64 0, .int .i64 0, .int .i64 (chk s)]) ∧ Below w.heap.size w w' := by
  have hz' := hz
  generalize hcc : chk s = c at hc ⊢
  have HCC := Go.Lib.hid hcc
  clear hcc
  go_enter Tryd.func4, Tryd.ntmps4
  go_wp2_with fail
  refine (check_calls s w hz).mono ?_
  rintro e w1 ⟨rfl, hb1⟩
  rw [HCC.out]
  have HB := Go.Lib.hid hb1
  have h0 : (c == 0) = false := beq_eq_false_iff_ne.mpr hc
  have h1 : (c != 0) = true := bne_iff_ne.mpr hc
  clear hb1 hc
  go_wp2_with fail
  go_ret3
  exact ⟨rfl, HB.out⟩

set_option maxHeartbeats 4000000 in
set_option maxRecDepth 100000 in
theorem Place_range (s : ByteArray) (k : Int) (w : World) (hz : s.size < 9223372036854775807) (hc : chk s = 0) (hk : k < 0 ∨ (s.size : Int) < k) :
    Calls Tryd.prog 4 #[.string s, .int .i64 k] w fun e w' => e = .returned (.tuple #[.int .i64 0, .int .i64 0, .int .i64 4]) ∧ Below w.heap.size w w' := by
  go_enter Tryd.func4, Tryd.ntmps4
  go_wp2_with fail
  refine (check_calls s w hz).mono ?_
  rintro e w1 ⟨rfl, hb1⟩
  rw [hc]
  have HB := Go.Lib.hid hb1
  clear hb1
  by_cases hk0 : k < 0
  · have h0 : decide (k < 0) = true := decide_eq_true hk0
    clear hk hk0
    go_wp2_with fail
    go_ret3
    exact ⟨rfl, HB.out⟩
  · have h0 : decide (k < 0) = false := decide_eq_false hk0
    have h1 : decide ((s.size : Int) < k) = true := decide_eq_true (by omega)
    clear hk hk0
    go_wp2_with fail
    go_ret3
    exact ⟨rfl, HB.out⟩

set_option maxHeartbeats 4000000 in
set_option maxRecDepth 100000 in
theorem Offset_bad (s : ByteArray) (line col : Int) (w : World) (hz : s.size < 9223372036854775807) (hc : ¬ chk s = 0) :
    Calls Tryd.prog 6 #[.string s, .int .i64 line, .int .i64 col] w fun e w' => e = .returned (.tuple #[.int .i64 0, .int .i64 (chk s)]) ∧ Below w.heap.size w w' := by
  have hz' := hz
  generalize hcc : chk s = c at hc ⊢
  have HCC := Go.Lib.hid hcc
  clear hcc
  go_enter Tryd.func6, Tryd.ntmps6
  go_wp2_with fail
  refine (Line_bad s line w hz (by rw [HCC.out]; exact hc)).mono ?_
  rintro e w1 ⟨rfl, hb1⟩
  rw [HCC.out]
  have HB := Go.Lib.hid hb1
  have h0 : (c == 0) = false := beq_eq_false_iff_ne.mpr hc
  have h1 : (c != 0) = true := bne_iff_ne.mpr hc
  clear hb1 hc
  go_wp2_with fail
  go_ret2
  exact ⟨rfl, HB.out⟩

set_option maxHeartbeats 4000000 in
set_option maxRecDepth 100000 in
theorem Offset_line (s : ByteArray) (line col : Int) (w : World) (hm : MaxIs w) (hj : line < 1 ∨ ((lines s).length : Int) < line) (hc : chk s = 0) (hz : s.size ≤ 8192) (hn5 : (lines s).length ≤ 8193) :
    Calls Tryd.prog 6 #[.string s, .int .i64 line, .int .i64 col] w fun e w' => e = .returned (.tuple #[.int .i64 0, .int .i64 4]) ∧ Below w.heap.size w w' := by
  go_enter Tryd.func6, Tryd.ntmps6
  go_wp2_with fail
  refine (Line_range s line w hm hj hc hz hn5).mono ?_
  rintro e w1 ⟨rfl, hb1⟩
  have HB := Go.Lib.hid hb1
  clear hb1 hj hc hn5
  go_wp2_with fail
  go_ret2
  exact ⟨rfl, HB.out⟩

/-- Where line m + 1 begins. -/
def start (s : ByteArray) : Nat → Nat
  | 0 => 0
  | m + 1 => start s m + (Lib.indexByte (s.extract (start s m) s.size).data.toList 10 + 1).toNat

set_option maxHeartbeats 4000000 in
set_option maxRecDepth 100000 in
theorem Offset_col (s : ByteArray) (j : Nat) (col : Int) (w : World) (hm : MaxIs w) (hj : j < (lines s).length) (hc : chk s = 0) (hz : s.size ≤ 8192) (hl : ∀ p ∈ lines s, p.size ≤ 8192) (hn5 : (lines s).length ≤ 8193) (hcol : col < 1 ∨ (((lines s).getD j ⟨#[]⟩).size : Int) + 1 < col) :
    Calls Tryd.prog 6 #[.string s, .int .i64 ((j : Int) + 1), .int .i64 col] w fun e w' => e = .returned (.tuple #[.int .i64 0, .int .i64 4]) ∧ Below w.heap.size w w' := by
  have hpl : ((lines s).getD j ⟨#[]⟩).size ≤ 8192 := hl _ (by rw [List.getD_eq_getElem?_getD, List.getElem?_eq_getElem hj]; exact List.getElem_mem hj)
  go_enter Tryd.func6, Tryd.ntmps6
  go_wp2_with fail
  refine (Line_ok s j w hm hj hc hz hl hn5).mono ?_
  rintro e w1 ⟨rfl, hb1⟩
  have HB := Go.Lib.hid hb1
  clear hb1 hj hc hn5 hl
  generalize (lines s).getD j ⟨#[]⟩ = piece at *
  by_cases hk0 : col < 1
  · have h0 : decide (col < 1) = true := decide_eq_true hk0
    clear hcol hk0
    go_wp2_with fail
    go_ret2
    exact ⟨rfl, HB.out⟩
  · have h0 : decide (col < 1) = false := decide_eq_false hk0
    have h1 : decide ((piece.size : Int) + 1 < col) = true := decide_eq_true (by omega)
    clear hcol hk0
    go_wp2_with fail
    go_ret2
    exact ⟨rfl, HB.out⟩

set_option maxHeartbeats 4000000 in
set_option maxRecDepth 100000 in
theorem Offset_ok (s : ByteArray) (j c : Nat) (w : World) (hm : MaxIs w) (hj : j < (lines s).length) (hc : chk s = 0) (hz : s.size ≤ 8192) (hl : ∀ p ∈ lines s, p.size ≤ 8192) (hn5 : (lines s).length ≤ 8193) (hcol : c ≤ ((lines s).getD j ⟨#[]⟩).size) (hst : ∀ i, i ≤ j → start s i ≤ s.size) (hix : ∀ i, i < j → 0 ≤ Lib.indexByte (s.extract (start s i) s.size).data.toList 10) :
    Calls Tryd.prog 6 #[.string s, .int .i64 ((j : Int) + 1), .int .i64 ((c : Int) + 1)] w fun e w' => e = .returned (.tuple #[.int .i64 ((start s j : Int) + c), .int .i64 0]) ∧ Below w.heap.size w w' := by
  have hpl : ((lines s).getD j ⟨#[]⟩).size ≤ 8192 := hl _ (by rw [List.getD_eq_getElem?_getD, List.getElem?_eq_getElem hj]; exact List.getElem_mem hj)
  go_enter Tryd.func6, Tryd.ntmps6
  go_wp2_with fail
  refine (Line_ok s j w hm hj hc hz hl hn5).mono ?_
  rintro e w1 ⟨rfl, hb1⟩
  have HB := Go.Lib.hid hb1
  have hj2 : (j : Int) ≤ 8193 := by omega
  clear hb1 hj hc hn5 hl
  generalize (lines s).getD j ⟨#[]⟩ = piece at *
  have h0 : decide ((c : Int) + 1 < 1) = false := decide_eq_false (by omega)
  have h1 : decide ((piece.size : Int) + 1 < (c : Int) + 1) = false := decide_eq_false (by omega)
  have h2 : decide (piece.size < c) = false := decide_eq_false (by omega)
  have HST := Go.Lib.hid hst
  have HIX := Go.Lib.hid hix
  clear hst hix
  go_wp2_with fail
  go_loopg [10, 33] j (fun k v10 v33 wr => ∃ i : Nat, i + k = j ∧ v10 = .int .i64 (start s i) ∧ v33 = .int .i64 i ∧ Hid (Below w.heap.size w wr))
  case atStart => exact ⟨0, by omega, rfl, rfl, HB⟩
  case round =>
    obtain ⟨i, hi, rfl, rfl, hb⟩ := hrel
    by_cases hlt : i < j
    · have hs1 := HST.out i (by omega)
      have hs2 := HST.out (i + 1) (by omega)
      have hx := HIX.out i hlt
      have hnx : (start s (i + 1) : Int) = start s i + (Lib.indexByte (s.extract (start s i) s.size).data.toList 10 + 1) := by
        rw [start]; omega
      have HNX := Go.Lib.hid hnx
      have hs2' : (start s i : Int) + (Lib.indexByte (s.extract (start s i) s.size).data.toList 10 + 1) ≤ 8192 := by omega
      clear hnx hs2
      go_wp2_with fail
      refine (Tryd.strings_IndexByte _ 10 wr).mono ?_
      rintro e w2 ⟨rfl, rfl⟩
      rw [show (10 : Int).toNat.toUInt8 = 10 from rfl]
      generalize Lib.indexByte (s.extract (start s i) s.size).data.toList 10 = o at *
      go_wp2_with fail
      go_roundg (gk - 1)
      case measure => omega
      case rel => exact ⟨i + 1, by omega, by rw [HNX.out], by go_num, hb⟩
    · go_wp2_with fail
      go_ret2
      obtain rfl : i = j := by omega
      have hs1 := HST.out i (Nat.le_refl _)
      have hfin : wrap64 (wrap64 ((start s i : Int) + ((c : Int) + 1)) - 1) = (start s i : Int) + c := by
        rw [w64 ((start s i : Int) + ((c : Int) + 1)) (by omega) (by omega), w64 _ (by omega) (by omega)]
        omega
      exact ⟨by rw [← hfin]; rfl, hb.out⟩
end Go.Proofs.YtmekgcpdkbegnaaDoor.Sp
