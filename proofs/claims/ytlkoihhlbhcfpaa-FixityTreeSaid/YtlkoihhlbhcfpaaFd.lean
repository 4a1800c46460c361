import Derived.Test.YtlkoihhlbhcfpaaFc
namespace Go.Proofs.Ytlkoihhlbhcfpaa.Fx
open Go.RowKit Go.Proofs.Ytlkoihhlbhcfpaa.PFixityTree Go.Proofs.YtlkoihhlbhcfpaaW.PrintWords Go.Proofs.YtlkoihhlbhcfpaaW.PrintLast Go.Proofs.YtlkoihhlbhcfpaaW.PrintMore
set_option linter.unusedVariables false
set_option linter.unusedSimpArgs false

set_option maxRecDepth 100000 in
theorem closure_calls (z : S42) (op : ByteArray) (g : Nat) (w : World) (hg : w.cell? ⟨g, 0, none⟩ = some (.string op)) :
    Calls Try.prog 11 #[.agg #[.string z.f0, .int .i64 z.f1, .int .i64 z.f2], .pointer (some ⟨g, 0, none⟩)] w fun e w' => e = .returned (.bool (decide (z.f0.toList = op.toList))) ∧ Below w.heap.size w w' := by
  have hg2 : ∀ o, (w.alloc o).cell? ⟨g, 0, none⟩ = some (.string op) := fun o => pw_cell_below ((Below.refl _ _).alloc (Nat.le_refl _) o) hg
  clear hg
  by_cases h : z.f0.toList = op.toList
  · have h0 : (z.f0.toList == op.toList) = true := beq_iff_eq.mpr h
    have H := Go.Lib.hid h
    clear h
    go_enter Try.func11, Try.ntmps11
    go_wp2_with fail
    go_ret
    exact ⟨by rw [decide_eq_true H.out]; rfl, (Below.refl _ _).alloc (Nat.le_refl _) _⟩
  · have h0 : (z.f0.toList == op.toList) = false := beq_eq_false_iff_ne.mpr h
    have H := Go.Lib.hid h
    clear h
    go_enter Try.func11, Try.ntmps11
    go_wp2_with fail
    go_ret
    exact ⟨by rw [decide_eq_false H.out]; rfl, (Below.refl _ _).alloc (Nat.le_refl _) _⟩

/-- What IndexFunc answers. -/
def IdxPost (xs : List S42) (op : ByteArray) (e : Ending) : Prop := ∃ r : Int, e = .returned (.int .i64 r) ∧ decide (0 ≤ r) = hasB xs op

set_option maxHeartbeats 4000000 in
set_option maxRecDepth 100000 in
theorem index_calls (xs : List S42) (op : ByteArray) (g : Nat) (w : World) (A : Option Addr) (c : Nat) (hx : xs.length < 5000) (hA : Kd.C k42 w A xs.length xs) (hg : w.cell? ⟨g, 0, none⟩ = some (.string op)) :
    Calls Try.prog 16 #[.slice A xs.length c, .func (.func 11) #[] #[.pointer (some ⟨g, 0, none⟩)]] w fun e w' => IdxPost xs op e ∧ Below w.heap.size w w' := by
  have HA := Go.Lib.hid hA
  have HG := Go.Lib.hid hg
  have hl : (xs.length : Int) ≤ 5000 := by omega
  have HX := Go.Lib.hid hx
  clear hA hg hx
  go_enter Try.func16, Try.ntmps16
  go_wp2_with fail
  go_loopg [8] xs.length (fun k v8 wr => ∃ i : Nat, Hid (i + k = xs.length) ∧ v8 = .int .i64 i ∧ Hid (hasB xs op = hasB (xs.drop i) op) ∧ Hid (Below w.heap.size w wr))
  case atStart => exact ⟨0, Go.Lib.hid (by omega), rfl, Go.Lib.hid (by simp), Go.Lib.hid (Below.refl _ _)⟩
  case round =>
    obtain ⟨i, hi, rfl, ho, hb⟩ := hrel
    by_cases hlt : i < xs.length
    · have hlt' : (i : Int) < (xs.length : Int) := by omega
      obtain ⟨ad, rfl, x0, x1, x2⟩ := at_T42 (Kd.C_below HA.out hb.out) (i : Int) (by omega) hlt'
      have hcap := Go.Lib.hid (pw_cell_below hb.out HG.out)
      have hd := Go.Lib.hid (hasB_drop hlt op)
      generalize rd_T42 xs (i : Int) = z at *
      rw [Int.toNat_natCast] at x0 x1 x2
      have HLT := Go.Lib.hid hlt
      clear hlt
      go_wp2_with fail
      refine (closure_calls z op g wr hcap.out).mono ?_
      rintro e w1 ⟨rfl, hb1⟩
      have hb2 := Go.Lib.hid (hb.out.trans (hb1.mono hb.out.size))
      clear hb1
      by_cases hz : z.f0.toList = op.toList
      · rw [decide_eq_true hz]
        have hr := Go.Lib.hid (show hasB xs op = true by rw [ho.out, hd.out, decide_eq_true hz]; rfl)
        clear hz
        go_wp2_with fail
        go_ret
        exact ⟨⟨i, rfl, by rw [hr.out]; exact decide_eq_true (by omega)⟩, hb2.out⟩
      · rw [decide_eq_false hz]
        have hr := Go.Lib.hid (show hasB xs op = hasB (xs.drop (i + 1)) op by rw [ho.out, hd.out, decide_eq_false hz]; rfl)
        clear hz
        go_wp2_with fail
        go_roundg (gk - 1)
        case measure => have := hi.out; have := HLT.out; omega
        case rel => exact ⟨i + 1, Go.Lib.hid (by have := hi.out; have := HLT.out; omega), by go_num, hr, hb2⟩
    · have hr := Go.Lib.hid (show hasB xs op = false by rw [ho.out, List.drop_eq_nil_of_le (by omega)]; rfl)
      have hlt' : ¬ (i : Int) < (xs.length : Int) := by omega
      clear hlt
      go_wp2_with fail
      go_ret
      exact ⟨⟨-1, rfl, by rw [hr.out]; rfl⟩, hb.out⟩

set_option maxRecDepth 100000 in
theorem contains_calls (xs : List S42) (op : ByteArray) (g : Nat) (w : World) (A : Option Addr) (c : Nat) (hx : xs.length < 5000) (hA : Kd.C k42 w A xs.length xs) (hg : w.cell? ⟨g, 0, none⟩ = some (.string op)) :
    Calls Try.prog 10 #[.slice A xs.length c, .func (.func 11) #[] #[.pointer (some ⟨g, 0, none⟩)]] w fun e w' => e = .returned (.bool (hasB xs op)) ∧ Below w.heap.size w w' := by
  have HA := Go.Lib.hid hA
  have HG := Go.Lib.hid hg
  have HX := Go.Lib.hid hx
  clear hA hg hx
  go_enter Try.func10, Try.ntmps10
  go_wp2_with fail
  refine (index_calls xs op g w A c HX.out HA.out HG.out).mono ?_
  rintro e w1 ⟨⟨r, rfl, hr⟩, hb1⟩
  have HB := Go.Lib.hid hb1
  have HR := Go.Lib.hid hr
  clear hb1 hr
  by_cases h : 0 ≤ r
  · have h0 : decide (0 ≤ r) = true := decide_eq_true h
    have H := Go.Lib.hid h
    clear h
    go_wp2_with fail
    go_ret
    exact ⟨by rw [← HR.out, decide_eq_true H.out]; rfl, HB.out⟩
  · have h0 : decide (0 ≤ r) = false := decide_eq_false h
    have H := Go.Lib.hid h
    clear h
    go_wp2_with fail
    go_ret
    exact ⟨by rw [← HR.out, decide_eq_false (by have := H.out; omega)]; rfl, HB.out⟩

set_option maxHeartbeats 4000000 in
set_option maxRecDepth 100000 in
theorem check_calls (T : List S42) (w : World) (A : Option Addr) (c : Nat) (hT : T.length < 1000) (hA : Kd.C k42 w A T.length T) (hc : T.length ≤ c) :
    Calls Try.prog 6 #[.slice A T.length c] w fun e w' => e = .returned (.int .i64 (ck [] T)) ∧ Below w.heap.size w w' := by
  have HA := Go.Lib.hid hA
  have hl : (T.length : Int) ≤ 1000 := by omega
  have HT := Go.Lib.hid hT
  have h0 : decide ((4096 : Int) < (T.length : Int)) = false := decide_eq_false (by omega)
  obtain ⟨i0, hi0, _, hsz, _⟩ := info_parts info42
  have hcut := fun (b : Nat) (hb : (b : Int) ≤ T.length) => cut_to (P := Try.prog) 22 42 .i64 Try.underlying22 hi0 A T.length c (b : Int) (by omega) hb hc
  have HCUT := Go.Lib.hid hcut
  clear hA hT hcut
  go_enter Try.func6, Try.ntmps6
  go_wp2_with fail
  go_loopg [10] T.length (fun k v10 wr => ∃ i : Nat, Hid (i + k = T.length) ∧ v10 = .int .i64 i ∧ Hid (ck [] T = ck (T.take i) (T.drop i)) ∧ Hid (Below w.heap.size w wr))
  case atStart => exact ⟨0, Go.Lib.hid (by omega), rfl, Go.Lib.hid (by simp), Go.Lib.hid (Below.refl _ _)⟩
  case round =>
    obtain ⟨i, hi, rfl, ho, hb⟩ := hrel
    by_cases hlt : i < T.length
    · have hlt' : (i : Int) < (T.length : Int) := by omega
      obtain ⟨ad, rfl, x0, x1, x2⟩ := at_T42 (Kd.C_below HA.out hb.out) (i : Int) (by omega) hlt'
      have hd := Go.Lib.hid (rd_drop hlt)
      have hts := Go.Lib.hid (take_snoc42 hlt)
      have hcut := HCUT.out i (by omega)
      rw [Int.toNat_natCast] at hcut
      have htl := Go.Lib.hid (show (T.take i).length = i by rw [List.length_take]; omega)
      generalize rd_T42 T (i : Int) = z at *
      rw [Int.toNat_natCast] at x0 x1 x2
      have HLT := Go.Lib.hid hlt
      clear hlt
      have hbox := Go.Lib.hid (fun (o : Obj) => hb.out.alloc hb.out.size o)
      have hCt := Go.Lib.hid (fun (o : Obj) => Kd.C_take (m := i) (Kd.C_below HA.out ((hb.out.alloc hb.out.size o))) (by have := HLT.out; omega))
      have hnew := Go.Lib.hid (fun (v0 v1 v2 : Value) => (blk_cell (blk_new wr (.cells #[v0, v1, v2] 42 (0, 0))) 0 : (wr.alloc (.cells #[v0, v1, v2] 42 (0, 0))).cell? ⟨wr.heap.size, 0, none⟩ = _))
      by_cases hz : z.f0.toList = []
      · have hz0 : (z.f0.toList == ([] : List UInt8)) = true := beq_iff_eq.mpr hz
        have hr := Go.Lib.hid (show ck [] T = 3 by rw [ho.out, hd.out, ck, if_pos hz])
        go_wp2_with fail
        go_ret
        exact ⟨by rw [hr.out]; rfl, hb.out.alloc hb.out.size _⟩
      · have hz0 : (z.f0.toList == ([] : List UInt8)) = false := beq_eq_false_iff_ne.mpr hz
        have HZ := Go.Lib.hid hz
        -- out of range
        have hbad : outB z = true → ((decide (z.f1 < 0) = true) ∨ (decide (z.f1 < 0) = false ∧ decide (2 < z.f1) = true) ∨ (decide (z.f1 < 0) = false ∧ decide (2 < z.f1) = false ∧ decide (z.f2 < 0) = true) ∨ (decide (z.f1 < 0) = false ∧ decide (2 < z.f1) = false ∧ decide (z.f2 < 0) = false ∧ decide (9 < z.f2) = true)) := by
          unfold outB
          cases decide (z.f1 < 0) <;> cases decide (2 < z.f1) <;> cases decide (z.f2 < 0) <;> cases decide (9 < z.f2) <;> simp
        by_cases ho2 : outB z = true
        · have hr := Go.Lib.hid (show ck [] T = 4 by rw [ho.out, hd.out, ck, if_neg HZ.out, if_pos ho2])
          have hb' := hbad ho2
          clear hbad ho2
          rcases hb' with b1 | ⟨b1, b2⟩ | ⟨b1, b2, b3⟩ | ⟨b1, b2, b3, b4⟩
          all_goals
            go_wp2_with fail
            go_ret
            exact ⟨by rw [hr.out]; rfl, hb.out.alloc hb.out.size _⟩
        · have hgood : decide (z.f1 < 0) = false ∧ decide (2 < z.f1) = false ∧ decide (z.f2 < 0) = false ∧ decide (9 < z.f2) = false := by
            clear hbad
            unfold outB at ho2
            revert ho2
            cases decide (z.f1 < 0) <;> cases decide (2 < z.f1) <;> cases decide (z.f2 < 0) <;> cases decide (9 < z.f2) <;> simp
          obtain ⟨b1, b2, b3, b4⟩ := hgood
          have hr := Go.Lib.hid (show ck [] T = if hasB (T.take i) z.f0 then 7 else ck (T.take (i + 1)) (T.drop (i + 1)) by rw [ho.out, hd.out, ck, if_neg HZ.out, if_neg ho2, hts.out])
          clear hbad ho2
          go_wp2_with fail
          have hcc := contains_calls (T.take i) z.f0 wr.heap.size (wr.alloc (.cells #[.string z.f0, .int .i64 z.f1, .int .i64 z.f2] 42 (0, 0))) (some ad) c (by rw [htl.out]; have := HT.out; have := HLT.out; omega) (hCt.out _) ((hnew.out _ _ _).trans rfl)
          rw [htl.out] at hcc
          refine hcc.mono ?_
          rintro e w1 ⟨rfl, hb1⟩
          have hb2 := Go.Lib.hid ((hbox.out _).trans (hb1.mono (hbox.out _).size))
          clear hb1 hcc
          by_cases hh : hasB (T.take i) z.f0 = true
          · rw [hh]
            have hr2 := Go.Lib.hid (show ck [] T = 7 by rw [hr.out, if_pos hh])
            clear hh
            go_wp2_with fail
            go_ret
            exact ⟨by rw [hr2.out]; rfl, hb2.out⟩
          · have hf : hasB (T.take i) z.f0 = false := by simpa using hh
            rw [hf]
            have hr2 := Go.Lib.hid (show ck [] T = ck (T.take (i + 1)) (T.drop (i + 1)) by rw [hr.out, if_neg hh])
            clear hh hf
            go_wp2_with fail
            go_roundg (gk - 1)
            case measure => have := hi.out; have := HLT.out; omega
            case rel => exact ⟨i + 1, Go.Lib.hid (by have := hi.out; have := HLT.out; omega), by go_num, hr2, hb2⟩
    · have hr := Go.Lib.hid (show ck [] T = 0 by rw [ho.out, List.drop_eq_nil_of_le (by omega)]; rfl)
      have hlt' : ¬ (i : Int) < (T.length : Int) := by omega
      clear hlt
      go_wp2_with fail
      go_ret
      exact ⟨by rw [hr.out]; rfl, hb.out⟩
end Go.Proofs.Ytlkoihhlbhcfpaa.Fx
