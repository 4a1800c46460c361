import Derived.Test.YtdobkkoonamocaaMa
import Derived.Deep.RegionHeld3
import Derived.StillTailTactics
namespace Go.Proofs.Ytdobkkoonamocaa.Mo
open Go.RowKit Go.Proofs.Ytdobkkoonamocaa.PModulesOrdered Go.Proofs.YtdobkkoonamocaaW.PrintWords Go.Proofs.YtdobkkoonamocaaW.PrintLast Go.Proofs.YtdobkkoonamocaaW.PrintMore
set_option linter.unusedVariables false
set_option linter.unusedSimpArgs false

theorem info9 : (Try.prog.info? 9).map (fun i => (i.zero, i.size, i.bytes)) = some (some (.string ⟨#[]⟩), 1, 16) := by kernel_rfl
theorem quiet_add' {P : Program} {f : FuncId} {args : Array Value} {w : World} {n : Nat} {v : Value}
    (h : Calls P f args (w.drewN n) fun e w' => e = .returned v ∧ Drawn0 (w.drewN n) w') : Calls P f args (w.drewN n) fun e w'' => e = .returned v ∧ ∃ m, w'' = w.drewN m :=
  Calls.quiet_of (h.mono fun _ _ ⟨he, hd⟩ => ⟨he, hd.out⟩)

/-- A cell of a slice of strings. -/
theorem at_S {w : World} {A : Option Addr} {l : List ByteArray} (h : Kd.C Kd.string w A l.length l) {i : Nat} (hi : i < l.length) : ∃ ad, A = some ad ∧ w.cell? (ad.add i) = some (.string (sx l (i : Int))) := by
  obtain ⟨ad, c, e, _, hK, hc⟩ := Kd.C_get h ByteArray.empty (i : Int) (by omega) (by omega)
  have hc0 := hc 0
  rw [show c = [.string (l.getD (i : Int).toNat ByteArray.empty)] from hK] at hc0
  refine ⟨ad, e, ?_⟩
  have := hc0 _ rfl
  rw [Int.toNat_natCast, show i * Kd.string.sz + 0 = i from by show i * 1 + 0 = i; omega] at this
  exact this

set_option maxHeartbeats 4000000 in
set_option maxRecDepth 100000 in
theorem error_calls (N : List ByteArray) (I : List (List ByteArray)) (A0 A1 : Option Addr) (c0 c1 : Nat) (w : World) (hN : N.length < LIM) (hI : I.length < LIM) (hl : ∀ l ∈ I, l.length < LIM) (hr0 : Kd.C Kd.string w A0 N.length N) (hc0 : N.length ≤ c0) (hr1 : Kd.C (Kd.slice 9 Kd.string) w A1 I.length I) (hc1 : I.length ≤ c1) :
    Calls Try.prog 8 #[.slice A0 N.length c0, .slice A1 I.length c1] w fun e w' => e = .returned (.int .i64 (mErr N I)) ∧ Below w.heap.size w w' := by
  have HR0 := Go.Lib.hid hr0
  have HR1 := Go.Lib.hid hr1
  have HL := Go.Lib.hid hl
  have HN := Go.Lib.hid hN
  clear hr0 hr1 hl hN hI
  by_cases h16 : 16 < N.length
  · have a : decide ((16 : Int) < (N.length : Int)) = true := decide_eq_true (by omega)
    have hr := Go.Lib.hid (show mErr N I = 2 from if_pos h16)
    clear h16
    go_enter Try.func8, Try.ntmps8
    go_wp2_with fail
    go_ret
    exact ⟨by rw [hr.out]; rfl, Below.refl _ _⟩
  · have a : decide ((16 : Int) < (N.length : Int)) = false := decide_eq_false (by omega)
    by_cases hne : N.length = I.length
    · have hn : (N.length : Int) ≤ 16 := by omega
      have hn0 : (0 : Int) ≤ (N.length : Int) := by omega
      have hni : (I.length : Int) ≤ 16 := by omega
      have b1 : ((N.length : Int) != (I.length : Int)) = false := bne_eq_false_iff_eq.mpr (by omega)
      have b2 : (N.length == I.length) = true := beq_iff_eq.mpr hne
      have b3 : (N.length != I.length) = false := bne_eq_false_iff_eq.mpr hne
      have HM := Go.Lib.hid (show mErr N I = if dupB N then 7 else if allB N I then 0 else 6 by unfold mErr; rw [if_neg h16, if_neg (fun h => h hne)])
      have HNE := Go.Lib.hid hne
      clear h16 hne
      go_enter Try.func8, Try.ntmps8
      go_wp2_with fail
      go_loopg [20] N.length (fun k v20 wr => ∃ i : Nat, Hid (i + k = N.length) ∧ v20 = .int .i64 i ∧ Hid (dupB N = dupB (N.drop i)) ∧ Hid (Below w.heap.size w wr))
      case atStart => exact ⟨0, Go.Lib.hid (by omega), rfl, Go.Lib.hid (by simp), Go.Lib.hid (Below.refl _ _)⟩
      case round =>
        obtain ⟨i, hi, rfl, hd, hb⟩ := hrel
        by_cases hlt : i < N.length
        · have hlt' : (i : Int) < (N.length : Int) := by omega
          obtain ⟨ad, rfl, x0⟩ := at_S (Kd.C_below HR0.out hb.out) hlt
          obtain ⟨i0, hi0, _, hsz, _⟩ := info_parts info9
          have hcut := cut_from (P := Try.prog) 22 9 .i64 Try.underlying22 hi0 1 hsz (some ad) N.length c0 ((i : Int) + 1) (by omega) (by omega)
          rw [show ((i : Int) + 1).toNat = i + 1 by omega] at hcut
          have hH := Go.Lib.hid (fun (W : World) (hW : Below w.heap.size w W) => has_calls (N.drop (i + 1)) (sx N (i : Int)) (if c0 = i + 1 then some ad else (some ad).map (·.add ((i + 1) * 1))) (c0 - (i + 1)) W (by rw [List.length_drop]; have := HN.out; omega) (Kd.C_drop (m := i + 1) (c := c0) (Kd.C_below HR0.out hW) (by omega) hc0) (by rw [List.length_drop]; omega))
          rw [List.length_drop] at hH
          obtain ⟨A2, hA2⟩ : ∃ A2, A2 = (if c0 = i + 1 then some ad else (some ad).map (·.add ((i + 1) * 1))) := ⟨_, rfl⟩
          obtain ⟨c2, hc2⟩ : ∃ c2, c2 = c0 - (i + 1) := ⟨_, rfl⟩
          obtain ⟨n2, hn2⟩ : ∃ n2, n2 = N.length - (i + 1) := ⟨_, rfl⟩
          rw [← hA2, ← hc2, ← hn2] at hcut hH
          have hdd := Go.Lib.hid (show dupB N = (hasB (N.drop (i + 1)) (sx N (i : Int)) || dupB (N.drop (i + 1))) by rw [hd.out, drop_sx hlt]; rfl)
          generalize sx N (i : Int) = s at *
          generalize hB : hasB (N.drop (i + 1)) s = hb2 at hH hdd
          have HLT := Go.Lib.hid hlt
          clear hlt hA2 hc2 hn2 hB
          cases hb2
          · have hdn := Go.Lib.hid (show dupB N = dupB (N.drop (i + 1)) by rw [hdd.out, Bool.false_or])
            go_wp2_with fail
            go_quiet ((go_at_call 20; exact quiet_add' (hH.out _ (pw_below_drewN hb.out _))))
            go_wp2_with fail
            go_roundg (gk - 1)
            case measure => have := hi.out; have := HLT.out; omega
            case rel => exact ⟨i + 1, Go.Lib.hid (by have := hi.out; have := HLT.out; omega), by go_num, hdn, Go.Lib.hid (pw_below_drewN hb.out _)⟩
          · have hr := Go.Lib.hid (show mErr N I = 7 by rw [HM.out, hdd.out]; rfl)
            go_wp2_with fail
            go_quiet ((go_at_call 20; exact quiet_add' (hH.out _ (pw_below_drewN hb.out _))))
            go_wp2_with fail
            go_ret
            exact ⟨by rw [hr.out]; rfl, pw_below_drewN hb.out _⟩
        · have hlt' : ¬ (i : Int) < (N.length : Int) := by omega
          have HM2 := Go.Lib.hid (show mErr N I = if allB N I then 0 else 6 by rw [HM.out, hd.out, List.drop_eq_nil_of_le (by omega)]; rfl)
          clear hlt
          go_wp2_with fail
          go_loopg [35] I.length (fun k v35 wr => ∃ i : Nat, Hid (i + k = I.length) ∧ v35 = .int .i64 i ∧ Hid (allB N I = allB N (I.drop i)) ∧ Hid (Below w.heap.size w wr))
          case atStart => exact ⟨0, Go.Lib.hid (by omega), rfl, Go.Lib.hid (by simp), hb⟩
          case round =>
            obtain ⟨i, hi, rfl, hd, hb⟩ := hrel
            by_cases hlt : i < I.length
            · have hlt' : (i : Int) < (I.length : Int) := by omega
              obtain ⟨ad, A2, c2, rfl, x0, hcl, hC2⟩ := at_L1 (Kd.C_below HR1.out hb.out) (i : Int) (by omega) hlt'
              rw [Int.toNat_natCast] at x0
              have hm := Go.Lib.hid (show rd_L1 I (i : Int) ∈ I by rw [rd_L1_get hlt]; exact List.getElem_mem hlt)
              have hdd := Go.Lib.hid (show allB N I = ((rd_L1 I (i : Int)).all (fun s => hasB N s) && allB N (I.drop (i + 1))) by rw [hd.out, drop_L1 hlt]; rfl)
              have hll := Go.Lib.hid (HL.out _ hm.out)
              generalize rd_L1 I (i : Int) = l at *
              have HC2 := Go.Lib.hid hC2
              have HLT := Go.Lib.hid hlt
              have hlb : (l.length : Int) ≤ 9223372036854775807 := by have := hll.out; unfold LIM at this; omega
              clear hC2 hm hlt
              go_wp2_with fail
              obtain ⟨wo, hwo⟩ : ∃ wo : World, wo = wr := ⟨_, rfl⟩
              go_loopg [41] l.length (fun k v41 wr => ∃ j : Nat, Hid (j + k = l.length) ∧ v41 = .int .i64 j ∧ Hid (allB N I = ((l.drop j).all (fun s => hasB N s) && allB N (I.drop (i + 1)))) ∧ Hid (Below w.heap.size w wr) ∧ Hid (Below wo.heap.size wo wr))
              case atStart => exact ⟨0, Go.Lib.hid (by omega), rfl, Go.Lib.hid (by simpa using hdd.out), hb, Go.Lib.hid (by rw [hwo]; exact Below.refl _ _)⟩
              case round =>
                obtain ⟨j, hj, rfl, hd2, hb2, hn2⟩ := hrel
                by_cases hlt : j < l.length
                · have hlt' : (j : Int) < (l.length : Int) := by omega
                  obtain ⟨ad2, rfl, x1⟩ := at_S (Kd.C_below (hwo ▸ HC2.out) hn2.out) hlt
                  have hd3 := Go.Lib.hid (show allB N I = (hasB N (sx l (j : Int)) && ((l.drop (j + 1)).all (fun s => hasB N s) && allB N (I.drop (i + 1)))) by rw [hd2.out, drop_sx hlt, List.all_cons, Bool.and_assoc])
                  have hH := Go.Lib.hid (has_calls N (sx l (j : Int)) A0 c0 _ HN.out (Kd.C_below HR0.out hb2.out) hc0)
                  generalize sx l (j : Int) = s at *
                  generalize hB : hasB N s = hv at hH hd3
                  have HLT2 := Go.Lib.hid hlt
                  clear hlt hB
                  cases hv
                  · have hr := Go.Lib.hid (show mErr N I = 6 by rw [HM2.out, hd3.out]; rfl)
                    go_wp2_with fail
                    refine hH.out.mono ?_
                    rintro e w9 ⟨rfl, hd9⟩
                    have HB9 := Go.Lib.hid (hb2.out.trans (hd9.below.mono hb2.out.size))
                    clear hd9
                    go_wp2_with fail
                    go_ret
                    exact ⟨by rw [hr.out]; rfl, HB9.out⟩
                  · have hdn := Go.Lib.hid (show allB N I = ((l.drop (j + 1)).all (fun s => hasB N s) && allB N (I.drop (i + 1))) by rw [hd3.out, Bool.true_and])
                    go_wp2_with fail
                    refine hH.out.mono ?_
                    rintro e w9 ⟨rfl, hd9⟩
                    have HB9 := Go.Lib.hid (hb2.out.trans (hd9.below.mono hb2.out.size))
                    have HN9 := Go.Lib.hid (hn2.out.trans (hd9.below.mono hn2.out.size))
                    clear hd9
                    go_wp2_with fail
                    go_roundg (gk - 1)
                    case measure => have := hj.out; have := HLT2.out; omega
                    case rel => exact ⟨j + 1, Go.Lib.hid (by have := hj.out; have := HLT2.out; omega), by go_num, hdn, HB9, HN9⟩
                · have hlt' : ¬ (j : Int) < (l.length : Int) := by omega
                  have hdn := Go.Lib.hid (show allB N I = allB N (I.drop (i + 1)) by rw [hd2.out, List.drop_eq_nil_of_le (by omega)]; rfl)
                  clear hlt
                  go_wp2_with fail
                  go_roundg (I.length - (i + 1))
                  case measure => have := hi.out; have := HLT.out; omega
                  case rel => exact ⟨i + 1, Go.Lib.hid (by have := hi.out; have := HLT.out; omega), by go_num, hdn, hb2⟩
            · have hlt' : ¬ (i : Int) < (I.length : Int) := by omega
              have hr := Go.Lib.hid (show mErr N I = 0 by rw [HM2.out, hd.out, List.drop_eq_nil_of_le (by omega)]; rfl)
              clear hlt
              go_wp2_with fail
              go_ret
              exact ⟨by rw [hr.out]; rfl, hb.out⟩
    · have b1 : ((N.length : Int) != (I.length : Int)) = true := bne_iff_ne.mpr (by omega)
      have b2 : (N.length == I.length) = false := beq_eq_false_iff_ne.mpr hne
      have b3 : (N.length != I.length) = true := bne_iff_ne.mpr hne
      have hr := Go.Lib.hid (show mErr N I = 3 by unfold mErr; rw [if_neg h16, if_pos hne])
      clear h16 hne
      go_enter Try.func8, Try.ntmps8
      go_wp2_with fail
      go_ret
      exact ⟨by rw [hr.out]; rfl, Below.refl _ _⟩
end Go.Proofs.Ytdobkkoonamocaa.Mo
