import Derived.Test.YtemdfhaceddmpaaTg
namespace Go.Proofs.Ytemdfhaceddmpaa.Tr
open Go.Shelf Go.RowKit Go.Proofs.Ytemdfhaceddmpaa.PPrinterTells Go.Proofs.YtemdfhaceddmpaaW.PrintWords Go.Proofs.YtemdfhaceddmpaaW.PrintLast Go.Proofs.YtemdfhaceddmpaaW.PrintMore
set_option linter.unusedVariables false
set_option linter.unusedSimpArgs false

/-- Two nodes are the same but for places. -/
def eqN (x y : S27) : Bool := decide (x.f0 = y.f0) && (decide (x.f1 = y.f1) && (decide (x.f2 = y.f2) && decide (x.f3 = y.f3)))
theorem toList_inj {a b : ByteArray} : a.toList = b.toList ↔ a = b := by
  constructor
  · intro h
    rw [Go.Lib.toList_data, Go.Lib.toList_data] at h
    exact ByteArray.ext (Array.toList_inj.1 h)
  · rintro rfl; rfl
def cellsN (x : S27) (A : Option Addr) (c : Nat) : Array Value := #[.int .i64 x.f0, .string x.f1, .int .i64 x.f2, .slice A x.f3.length c, .int .i64 x.f4, .int .i64 x.f5]

set_option maxHeartbeats 2000000 in
set_option maxRecDepth 100000 in
theorem same1_calls (x y : S27) (A B : Option Addr) (c d : Nat) (w : World) (hA : Kd.C (Kd.int .i64) w A x.f3.length x.f3) (hB : Kd.C (Kd.int .i64) w B y.f3.length y.f3) (hl : x.f3.length ≤ 4611686018427387904) :
    Calls Try.prog 13 #[.agg #[.int .i64 x.f0, .string x.f1, .int .i64 x.f2, .slice A x.f3.length c, .int .i64 x.f4, .int .i64 x.f5], .agg #[.int .i64 y.f0, .string y.f1, .int .i64 y.f2, .slice B y.f3.length d, .int .i64 y.f4, .int .i64 y.f5]] w fun e w' => e = .returned (.bool (eqN x y)) ∧ Below w.heap.size w w' := by
  have h1 := blk_alloc (blk_new w (.cells (cellsN x A c) 27)) (.cells (cellsN y B d) 27)
  have h2 := blk_new (w.alloc (.cells (cellsN x A c) 27)) (.cells (cellsN y B d) 27)
  have e1 : (w.alloc (.cells (cellsN x A c) 27)).heap.size = w.heap.size + 1 := by simp
  rw [e1] at h2
  have HB := Go.Lib.hid (below_alloc (below_alloc (Below.refl w.heap.size w) (.cells (cellsN x A c) 27)) (.cells (cellsN y B d) 27))
  have HEQ := Go.Lib.hid (equal_calls x.f3 y.f3 A B c d _ (Kd.C_below hA HB.out) (Kd.C_below hB HB.out) hl)
  obtain ⟨fv, hfv⟩ : ∃ fv, fv = eqN x y := ⟨_, rfl⟩
  have HFV := Go.Lib.hid hfv
  rw [← hfv]
  clear e1 hA hB hl hfv h1 h2
  by_cases k0 : x.f0 = y.f0
  · have b0 : (x.f0 == y.f0) = true := beq_iff_eq.2 k0
    by_cases k1 : x.f1 = y.f1
    · have b1 : (x.f1.toList == y.f1.toList) = true := beq_iff_eq.2 (toList_inj.2 k1)
      by_cases k2 : x.f2 = y.f2
      · have b2 : (x.f2 == y.f2) = true := beq_iff_eq.2 k2
        have HV := Go.Lib.hid (show fv = decide (x.f3 = y.f3) by rw [HFV.out, eqN, decide_eq_true k0, decide_eq_true k1, decide_eq_true k2]; simp)
        clear k0 k1 k2 HFV
        go_enter Try.func13, Try.ntmps13
        go_wp2_with fail
        refine HEQ.out.mono ?_
        rintro e w1 ⟨rfl, hb1⟩
        rw [← HV.out]
        have HB1 := Go.Lib.hid (HB.out.trans (hb1.mono HB.out.size))
        clear hb1
        go_wp2_with fail
        go_ret
        exact ⟨rfl, HB1.out⟩
      · have b2 : (x.f2 == y.f2) = false := beq_eq_false_iff_ne.2 k2
        have HV := Go.Lib.hid (show fv = false by rw [HFV.out, eqN, decide_eq_false k2]; simp)
        clear k0 k1 k2 HFV
        go_enter Try.func13, Try.ntmps13
        go_wp2_with fail
        go_ret
        exact ⟨by rw [HV.out]; rfl, HB.out⟩
    · have b1 : (x.f1.toList == y.f1.toList) = false := beq_eq_false_iff_ne.2 (fun h => k1 (toList_inj.1 h))
      have HV := Go.Lib.hid (show fv = false by rw [HFV.out, eqN, decide_eq_false k1]; simp)
      clear k0 k1 HFV
      go_enter Try.func13, Try.ntmps13
      go_wp2_with fail
      go_ret
      exact ⟨by rw [HV.out]; rfl, HB.out⟩
  · have b0 : (x.f0 == y.f0) = false := beq_eq_false_iff_ne.2 k0
    have HV := Go.Lib.hid (show fv = false by rw [HFV.out, eqN, decide_eq_false k0]; simp)
    clear k0 HFV
    go_enter Try.func13, Try.ntmps13
    go_wp2_with fail
    go_ret
    exact ⟨by rw [HV.out]; rfl, HB.out⟩
end Go.Proofs.Ytemdfhaceddmpaa.Tr
