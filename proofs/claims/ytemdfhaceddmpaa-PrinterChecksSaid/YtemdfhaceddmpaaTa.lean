import Derived.Test.YtemdfhaceddmpaaPPrinterTellsx0
import Derived.Shelf.Strings.Search1
import Derived.Lib.Hide
import Derived.Lib.Strings
namespace Go.Proofs.Ytemdfhaceddmpaa.Tr
open Go.Shelf Go.RowKit Go.Proofs.Ytemdfhaceddmpaa.PPrinterTells Go.Proofs.YtemdfhaceddmpaaW.PrintWords Go.Proofs.YtemdfhaceddmpaaW.PrintLast Go.Proofs.YtemdfhaceddmpaaW.PrintMore
set_option linter.unusedVariables false
set_option linter.unusedSimpArgs false

theorem lit_I {W : World} {b t : Nat} {l : List Int} {cs : Array Value} (h : W.heap[b]? = some (.cells cs t (0, 0))) (hcs : cs = (l.map (Value.int .i64)).toArray) (hl : l.length < 1000) : Kd.C (Kd.int .i64) W (some ⟨b, 0, none⟩) l.length l := by
  subst hcs
  refine ⟨by simp, by omega, fun _ => ⟨_, rfl, fun j p hj => ⟨[.int .i64 p], rfl, rfl, fun i u hu => ?_⟩⟩⟩
  obtain rfl : i = 0 := by have := (List.getElem?_eq_some_iff.1 hu).1; simp at this; omega
  rw [add_plain, blk_cell h]
  have : j * (Kd.int IntKind.i64).sz + 0 = j := Nat.mul_one j
  rw [this]
  rw [List.getElem?_cons_zero] at hu
  simp [hj, ← hu]
theorem rd_nat (l : List Int) (i : Nat) (hi : i < l.length) : rd l (i : Int) = l[i] := by
  unfold rd
  rw [Int.toNat_natCast, List.getD_eq_getElem?_getD, List.getElem?_eq_getElem hi]; rfl

set_option maxHeartbeats 1000000 in
/-- isOf's closure: one of the list. -/
theorem one_calls (l : List Int) (A : Option Addr) (c g : Nat) (k : Int) (w : World) (hC : Kd.C (Kd.int .i64) w A l.length l) (hl : l.length < 1000) (hg : w.cell? ⟨g, 0, none⟩ = some (.int .i64 k)) :
    Calls Try.prog 35 #[.slice A l.length c, .pointer (some ⟨g, 0, none⟩)] w fun e w' => e = .returned (.bool (decide (k ∈ l))) ∧ w' = w := by
  have HC := Go.Lib.hid hC
  have hl9 : (l.length : Int) < 1000 := by omega
  clear hC
  go_enter Try.func35, Try.ntmps35
  go_wp2_with fail
  go_loopg [8] l.length (fun g_ v8 w' => ∃ i : Nat, Hid (i + g_ = l.length) ∧ v8 = .int .i64 i ∧ Hid (k ∉ l.take i) ∧ w' = w)
  case atStart => exact ⟨0, Go.Lib.hid (by omega), rfl, Go.Lib.hid (by simp), rfl⟩
  case round =>
    obtain ⟨i, hi, rfl, hn, rfl⟩ := hrel
    by_cases hlt : i < l.length
    · have hlt' : (i : Int) < (l.length : Int) := by omega
      have hi0 : (0 : Int) ≤ (i : Int) := by omega
      obtain ⟨ad, rfl, x0⟩ := Kd.at_int HC.out (i : Int) hi0 hlt'
      rw [rd_nat l i hlt, Int.toNat_natCast] at x0
      have HT := Go.Lib.hid (List.take_succ_eq_append_getElem hlt)
      have HM := Go.Lib.hid (List.getElem_mem hlt)
      have HLT := Go.Lib.hid hlt
      generalize l[i] = y at x0 HT HM
      clear hlt
      by_cases hy : y = k
      · have hb : (y == k) = true := beq_iff_eq.2 hy
        have HY := Go.Lib.hid hy
        clear hy
        go_wp2_with fail
        go_ret
        exact ⟨by rw [decide_eq_true (HY.out ▸ HM.out)]; rfl, rfl⟩
      · have hb : (y == k) = false := beq_eq_false_iff_ne.2 hy
        have HY := Go.Lib.hid hy
        clear hy
        go_wp2_with fail
        go_roundg (gk - 1)
        case measure => have := hi.out; have := HLT.out; omega
        case rel => exact ⟨i + 1, Go.Lib.hid (by have := hi.out; have := HLT.out; omega), by go_num, Go.Lib.hid (by rw [HT.out]; simp only [List.mem_append, List.mem_singleton, not_or]; exact ⟨hn.out, fun e => HY.out e.symm⟩), rfl⟩
    · have hd : decide ((i : Int) < (l.length : Int)) = false := decide_eq_false (by omega)
      have hd2 : decide (i < l.length) = false := decide_eq_false hlt
      have hd3 : ¬ (i : Int) < (l.length : Int) := by omega
      have HE := Go.Lib.hid (show k ∉ l by have h := hn.out; rw [List.take_of_length_le (by omega)] at h; exact h)
      go_wp2_with fail
      go_ret
      exact ⟨by rw [decide_eq_false HE.out]; rfl, rfl⟩

def iren : Go.Shelf.Ren := ⟨fun | 217 => 39 | 266 => 40 | n => n, fun n => n, fun n => n⟩
theorem ilays : Go.Proofs.Lays.n217 Try.prog iren := {
  mixed := by kernel_rfl
  f217 := Try.func39.trans (congrArg some (by kernel_rfl))
  f266 := Try.func40.trans (congrArg some (by kernel_rfl))
  t3 := Try.underlying3
  a3 := Try.isAgg3
  z3 := Try.sizeOf3
  v3 := Try.zeroValue3
  t5 := Try.underlying5
  a5 := Try.isAgg5
  z5 := Try.sizeOf5
  v5 := Try.zeroValue5
  t9 := Try.underlying9
  a9 := Try.isAgg9
  z9 := Try.sizeOf9
  v9 := Try.zeroValue9 }

set_option maxHeartbeats 1000000 in
theorem index_calls (s : ByteArray) (c : Int) (w : World) :
    Calls Try.prog 34 #[.string s, .int .u8 c] w fun e w' => e = .returned (.int .i64 (Lib.indexByte s.data.toList c.toNat.toUInt8)) ∧ w' = w := by
  go_enter Try.func34, Try.ntmps34
  go_wp2_with fail
  refine (Go.Proofs.Any.stringslite_IndexByte ilays s c w).mono ?_
  rintro e w' ⟨rfl, rfl⟩
  go_wp2_with fail
  go_ret
  exact ⟨rfl, rfl⟩
end Go.Proofs.Ytemdfhaceddmpaa.Tr
