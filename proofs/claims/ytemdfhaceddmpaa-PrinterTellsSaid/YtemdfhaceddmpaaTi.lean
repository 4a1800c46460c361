import Derived.Test.YtemdfhaceddmpaaTh
namespace Go.Proofs.Ytemdfhaceddmpaa.Tr
open Go.Shelf Go.RowKit Go.Proofs.Ytemdfhaceddmpaa.PPrinterTells Go.Proofs.YtemdfhaceddmpaaW.PrintWords Go.Proofs.YtemdfhaceddmpaaW.PrintLast Go.Proofs.YtemdfhaceddmpaaW.PrintMore
set_option linter.unusedVariables false
set_option linter.unusedSimpArgs false

def eqL : List S27 → List S27 → Bool
  | [], [] => true
  | x :: xs, y :: ys => eqN x y && eqL xs ys
  | _, _ => false
theorem eqL_len : ∀ (xs ys : List S27), xs.length ≠ ys.length → eqL xs ys = false
  | [], [], h => absurd rfl h
  | [], _ :: _, _ => rfl
  | _ :: _, [], _ => rfl
  | x :: xs, y :: ys, h => by rw [eqL, eqL_len xs ys (by simpa using h)]; simp
theorem rdN_nat (l : List S27) (i : Nat) (hi : i < l.length) : rd_T27 l (i : Int) = l[i] := by
  unfold rd_T27
  rw [Int.toNat_natCast, List.getD_eq_getElem?_getD, List.getElem?_eq_getElem hi]; rfl

set_option maxHeartbeats 2000000 in
set_option maxRecDepth 100000 in
theorem eqf_calls (xs ys : List S27) (A B : Option Addr) (c d : Nat) (w : World) (hA : Kd.C k27 w A xs.length xs) (hB : Kd.C k27 w B ys.length ys) (hl : xs.length ≤ 4611686018427387904) (hk : ∀ x ∈ xs, x.f3.length ≤ 4611686018427387904) :
    Calls Try.prog 12 #[.slice A xs.length c, .slice B ys.length d, .func (.func 13) #[] #[]] w fun e w' => e = .returned (.bool (eqL xs ys)) ∧ Below w.heap.size w w' := by
  have HA := Go.Lib.hid hA
  have HBB := Go.Lib.hid hB
  have HL := Go.Lib.hid hl
  have HK := Go.Lib.hid hk
  clear hA hB hl hk
  obtain ⟨fv, hfv⟩ : ∃ fv, fv = eqL xs ys := ⟨_, rfl⟩
  have HFV := Go.Lib.hid hfv
  rw [← hfv]
  clear hfv
  by_cases hlen : xs.length = ys.length
  · have h1 : ((xs.length : Int) != (ys.length : Int)) = false := bne_eq_false_iff_eq.mpr (by omega)
    have h2 : (xs.length != ys.length) = false := bne_eq_false_iff_eq.mpr hlen
    have HE := Go.Lib.hid hlen
    clear hlen
    go_enter Try.func12, Try.ntmps12
    go_wp2_with fail
    go_loopg [17] xs.length (fun g_ v17 w' => ∃ i : Nat, Hid (i + g_ = xs.length) ∧ v17 = .int .i64 i ∧ Hid (fv = eqL (xs.drop i) (ys.drop i)) ∧ Hid (Below w.heap.size w w'))
    case atStart => exact ⟨0, Go.Lib.hid (by omega), rfl, Go.Lib.hid (by simpa using HFV.out), Go.Lib.hid (Below.refl _ _)⟩
    case round =>
      obtain ⟨i, hi, rfl, hn, hb⟩ := hrel
      clear h1 h2
      by_cases hlt : i < xs.length
      · have hlt' : (i : Int) < (xs.length : Int) := by omega
        have hi0 : (0 : Int) ≤ (i : Int) := by omega
        have hltb : i < ys.length := by have := HE.out; omega
        have hltb' : (i : Int) < (ys.length : Int) := by omega
        obtain ⟨ad, A3, c3, rfl, p0, p1, p2, p3, p4, p5, l3, g3⟩ := at_T27 (Kd.C_below HA.out hb.out) (i : Int) hi0 hlt'
        have hbN : ∀ o : Obj, Kd.C k27 (wr.alloc o) B ys.length ys := fun o => Kd.C_below HBB.out (hb.out.trans ((below_alloc (Below.refl wr.heap.size wr) o).mono hb.out.size))
        rw [rdN_nat xs i hlt] at p0 p1 p2 p3 p4 p5 l3 g3
        rw [Int.toNat_natCast] at p0 p1 p2 p3 p4 p5
        have HX := Go.Lib.hid (HK.out _ (List.getElem_mem hlt))
        have HD := Go.Lib.hid (List.drop_eq_getElem_cons hlt)
        have HD2 := Go.Lib.hid (List.drop_eq_getElem_cons hltb)
        have hl9 : (xs.length : Int) ≤ 4611686018427387904 := by have := HL.out; omega
        have HLT := Go.Lib.hid hlt
        generalize xs[i] = x at p0 p1 p2 p3 p4 p5 l3 g3 HX HD
        obtain ⟨bd, B3, d3, rfl, q0, q1, q2, q3, q4, q5, m3, k3⟩ := at_T27 (hbN (.cells #[.int .i64 x.f0, .string x.f1, .int .i64 x.f2, .slice A3 x.f3.length c3, .int .i64 x.f4, .int .i64 x.f5] 27)) (i : Int) hi0 hltb'
        rw [rdN_nat ys i hltb] at q0 q1 q2 q3 q4 q5 m3 k3
        rw [Int.toNat_natCast] at q0 q1 q2 q3 q4 q5
        generalize ys[i] = y at q0 q1 q2 q3 q4 q5 m3 k3 HD2
        have G3 := Go.Lib.hid g3
        have K3 := Go.Lib.hid k3
        clear hlt hltb g3 k3 l3 m3 hbN
        have HB2 := Go.Lib.hid (show Below wr.heap.size wr ((wr.alloc (.cells #[.int .i64 x.f0, .string x.f1, .int .i64 x.f2, .slice A3 x.f3.length c3, .int .i64 x.f4, .int .i64 x.f5] 27)).alloc (.cells #[.int .i64 y.f0, .string y.f1, .int .i64 y.f2, .slice B3 y.f3.length d3, .int .i64 y.f4, .int .i64 y.f5] 27)) from below_alloc (below_alloc (Below.refl _ _) _) _)
        have HS := Go.Lib.hid (same1_calls x y A3 B3 c3 d3 ((wr.alloc (.cells #[.int .i64 x.f0, .string x.f1, .int .i64 x.f2, .slice A3 x.f3.length c3, .int .i64 x.f4, .int .i64 x.f5] 27)).alloc (.cells #[.int .i64 y.f0, .string y.f1, .int .i64 y.f2, .slice B3 y.f3.length d3, .int .i64 y.f4, .int .i64 y.f5] 27)) (Kd.C_below G3.out HB2.out) (Kd.C_below K3.out (below_alloc (Below.refl _ _) _)) HX.out)
        have HT := Go.Lib.hid (show fv = (eqN x y && eqL (xs.drop (i + 1)) (ys.drop (i + 1))) by rw [hn.out, HD.out, HD2.out]; rfl)
        generalize eqN x y = b at *
        go_wp2_with fail
        refine HS.out.mono ?_
        rintro e w2 ⟨rfl, hb2⟩
        have HB3 := Go.Lib.hid (hb.out.trans ((HB2.out.trans (hb2.mono HB2.out.size)).mono hb.out.size))
        clear hb2 p0 p1 p2 p3 p4 p5 q0 q1 q2 q3 q4 q5 HS
        cases b with
        | false =>
          have HV := Go.Lib.hid (show fv = false by rw [HT.out]; rfl)
          go_wp2_with fail
          go_ret
          exact ⟨by rw [HV.out]; rfl, HB3.out⟩
        | true =>
          go_wp2_with fail
          go_roundg (gk - 1)
          case measure => have := hi.out; have := HLT.out; omega
          case rel => exact ⟨i + 1, Go.Lib.hid (by have := hi.out; have := HLT.out; omega), by go_num, Go.Lib.hid (by rw [HT.out]; rfl), HB3⟩
      · have hd : decide ((i : Int) < (xs.length : Int)) = false := decide_eq_false (by omega)
        have hd2 : decide (i < xs.length) = false := decide_eq_false hlt
        have hd3 : ¬ (i : Int) < (xs.length : Int) := by omega
        have HV := Go.Lib.hid (show fv = true by rw [hn.out, List.drop_of_length_le (by omega), List.drop_of_length_le (by have := HE.out; omega)]; rfl)
        go_wp2_with fail
        go_ret
        exact ⟨by rw [HV.out]; rfl, hb.out⟩
  · have h1 : ((xs.length : Int) != (ys.length : Int)) = true := bne_iff_ne.mpr (by omega)
    have h2 : (xs.length != ys.length) = true := bne_iff_ne.mpr hlen
    have HV := Go.Lib.hid (show fv = false by rw [HFV.out]; exact eqL_len xs ys hlen)
    clear hlen
    go_enter Try.func12, Try.ntmps12
    go_wp2_with fail
    go_ret
    exact ⟨by rw [HV.out]; rfl, Below.refl _ _⟩
set_option maxHeartbeats 1000000 in
theorem same_calls (xs ys : List S27) (A B : Option Addr) (c d : Nat) (w : World) (hA : Kd.C k27 w A xs.length xs) (hB : Kd.C k27 w B ys.length ys) (hl : xs.length ≤ 4611686018427387904) (hk : ∀ x ∈ xs, x.f3.length ≤ 4611686018427387904) :
    Calls Try.prog 7 #[.slice A xs.length c, .slice B ys.length d] w fun e w' => e = .returned (.bool (eqL xs ys)) ∧ Below w.heap.size w w' := by
  have HF := Go.Lib.hid (eqf_calls xs ys A B c d w hA hB hl hk)
  clear hA hB hl hk
  go_enter Try.func7, Try.ntmps7
  go_wp2_with fail
  refine HF.out.mono ?_
  rintro e w1 ⟨rfl, hb1⟩
  have HB := Go.Lib.hid hb1
  clear hb1
  go_wp2_with fail
  go_ret
  exact ⟨rfl, HB.out⟩
end Go.Proofs.Ytemdfhaceddmpaa.Tr
