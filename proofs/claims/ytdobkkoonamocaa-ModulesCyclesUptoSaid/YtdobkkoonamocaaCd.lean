/- modules.Cycle. -/
import Derived.Test.YtdobkkoonamocaaCc
namespace Go.Proofs.Ytdobkkoonamocaa.Mo
open Go.RowKit Go.Lib Go.Proofs.Ytdobkkoonamocaa.PModulesOrdered Go.Proofs.YtdobkkoonamocaaW.PrintWords Go.Proofs.YtdobkkoonamocaaW.PrintLast Go.Proofs.YtdobkkoonamocaaW.PrintMore
set_option linter.unusedVariables false
set_option linter.unusedSimpArgs false
theorem mods_of {N : List ByteArray} {I : List (List ByteArray)} (h : mErr N I = 0) (hs : ∀ l ∈ I, l.length ≤ 1048576) : Mods N I := by
  unfold mErr at h
  split at h
  · cases h
  · split at h
    · cases h
    · split at h
      · cases h
      · split at h
        · rename_i h1 h2 h3 h4
          refine ⟨by omega, (Classical.not_not.1 h2).symm, fun l hl x hx => ?_, hs⟩
          unfold allB at h4
          have h5 := List.all_eq_true.1 h4 l hl
          exact List.all_eq_true.1 h5 x hx
        · cases h
/-- What Cycle answers. -/
def ResC (o : Option (List Str)) (e : Ending) (w' : World) : Prop := match o with
  | none => e = .returned (.tuple #[.slice none 0 0, .int .i64 12])
  | some l => ∃ (ad : Addr) (c' : Nat) (L : List ByteArray), e = .returned (.tuple #[.slice (some ad) L.length c', .int .i64 0]) ∧ dS L = l ∧ RdS w' (some ad) L ∧ L.length ≤ c'
theorem one_own (w : World) (m : ByteArray) : (w.alloc (.cells #[.string m] 9)).ownsRow w.heap.size 9 1 (.slice (some ⟨w.heap.size, 0, none⟩) [m].length 1) [m].length (strsV [m]) := by
  refine ⟨rfl, .inr ⟨w.heap.size, 1, _, rfl, Nat.le_refl _, blk_new w _, Nat.le_refl _, by decide, rfl, rfl⟩⟩
set_option maxRecDepth 100000 in
theorem cycle_err (N : List ByteArray) (I : List (List ByteArray)) (A0 A1 : Option Addr) (c0 c1 : Nat) (w : World) (hl : ∀ l ∈ I, l.length < LIM) (hr0 : RdS w A0 N) (hc0 : N.length ≤ c0) (hr1 : Kd.C (Kd.slice 9 Kd.string) w A1 I.length I) (hc1 : I.length ≤ c1) (he : mErr N I ≠ 0) :
    Calls Try.prog 16 #[.slice A0 N.length c0, .slice A1 I.length c1] w fun e w' => e = .returned (.tuple #[.slice none 0 0, .int .i64 (mErr N I)]) ∧ Below w.heap.size w w' := by
  have HC := Go.Lib.hid (check_calls N I A0 A1 c0 c1 w hl hr0 hc0 hr1 hc1)
  generalize mErr N I = er at *
  have h0 : (er != 0) = true := bne_iff_ne.mpr he
  have h1 : (er == 0) = false := beq_eq_false_iff_ne.mpr he
  clear hr0 hr1 hl he
  go_enter Try.func16, Try.ntmps16
  go_wp2_with fail
  refine HC.out.mono ?_
  rintro e w1 ⟨rfl, hb1⟩
  have HB1 := Go.Lib.hid hb1.below
  clear hb1 HC
  go_wp2_with fail
  go_ret2
  exact ⟨rfl, HB1.out⟩
set_option maxHeartbeats 8000000 in
set_option maxRecDepth 100000 in
theorem cycle_ok (N : List ByteArray) (I : List (List ByteArray)) (A0 A1 : Option Addr) (c0 c1 : Nat) (w : World) (hs : ∀ l ∈ I, l.length ≤ 1048576) (hr0 : RdS w A0 N) (hc0 : N.length ≤ c0) (hr1 : Kd.C (Kd.slice 9 Kd.string) w A1 I.length I) (hc1 : I.length ≤ c1) (he : mErr N I = 0) :
    Calls Try.prog 16 #[.slice A0 N.length c0, .slice A1 I.length c1] w fun e w' => ResC (cycleP (nxS N I) (dS N) N.length 0) e w' ∧ Below w.heap.size w w' := by
  have HC := Go.Lib.hid (check_calls N I A0 A1 c0 c1 w (fun l h => by have := hs l h; unfold LIM; omega) hr0 hc0 hr1 hc1)
  have HM := Go.Lib.hid (mods_of he hs)
  rw [he] at HC
  have HR0 := Go.Lib.hid hr0
  have HR1 := Go.Lib.hid hr1
  have hn16 : (N.length : Int) ≤ 16 := by have := HM.out.n16; omega
  have hn0 : (0 : Int) ≤ (N.length : Int) := by omega
  have N22 := n22
  clear hr0 hr1 hs he
  go_enter Try.func16, Try.ntmps16
  go_wp2_with fail
  refine HC.out.mono ?_
  rintro e w1 ⟨rfl, hb1⟩
  have HB1 := Go.Lib.hid hb1.below
  clear hb1 HC
  go_wp2_with fail
  refine (vals_calls A0 N.length c0 w1).mono ?_
  rintro e w4 ⟨rfl, rfl⟩
  have hb4 := Go.Lib.hid (HB1.out.trans (below_alloc (Below.refl w1.heap.size w1) (.cells #[.slice A0 N.length c0] 22) |>.mono HB1.out.size))
  have HSRT := Go.Lib.hid (sorted_calls w1.heap.size c0 A0 N _ (by have := HM.out.n16; omega) (HR0.out.up hb4.out) ((blk_cell (blk_new w1 _) 0).trans rfl))
  generalize w1.alloc (.cells #[.slice A0 N.length c0] 22) = w4 at *
  go_wp2_with fail
  refine HSRT.out.mono ?_
  rintro e w5 ⟨⟨A5, c5, rfl, ho5⟩, hb5⟩
  obtain ⟨X, hX⟩ : ∃ X, X = bsC ((dS N).mergeSort leS) := ⟨_, rfl⟩
  have hXl := Go.Lib.hid (show (dS N).length = X.length by rw [hX, bsC_length]; simp)
  have hXd := Go.Lib.hid (show dS X = (dS N).mergeSort leS by rw [hX, dS_bsC])
  rw [bsC_enc, ← hX, hXl.out] at ho5
  rw [hXl.out]
  have hRX := Go.Lib.hid (own_C2 ho5)
  have hX9 : (X.length : Int) ≤ 16 := by rw [← hXl.out, dS_length]; omega
  have hX0 : (0 : Int) ≤ (X.length : Int) := by omega
  have HB5 := Go.Lib.hid (hb4.out.trans (hb5.mono hb4.out.size))
  clear ho5 hb5 hX HSRT
  go_wp2_with fail
  go_loopg [8] N.length (fun k v8 wr => ∃ d : Nat, Hid (d + k = N.length) ∧ v8 = .int .i64 ((d : Int) + 1) ∧ Hid (cycleP (nxS N I) (dS N) N.length 0 = cycleP (nxS N I) (dS N) k d) ∧ Hid (Below w5.heap.size w5 wr))
  case atStart => exact ⟨0, Go.Lib.hid (by omega), rfl, Go.Lib.hid rfl, Go.Lib.hid (Below.refl _ _)⟩
  case round =>
    obtain ⟨d, hd, rfl, hP, hB6⟩ := hrel
    cases gk with
    | zero =>
      have h1 : decide ((d : Int) + 1 ≤ (N.length : Int)) = false := decide_eq_false (by have := hd.out; omega)
      have hn := Go.Lib.hid (show cycleP (nxS N I) (dS N) N.length 0 = none by rw [hP.out]; rfl)
      go_wp2_with fail
      go_ret2
      refine ⟨?_, HB5.out.trans (hB6.out.mono HB5.out.size)⟩
      rw [hn.out]
      rfl
    | succ k =>
      have h1 : decide ((d : Int) + 1 ≤ (N.length : Int)) = true := decide_eq_true (by have := hd.out; omega)
      obtain ⟨d1, hd1⟩ : ∃ d1 : Nat, d1 = d + 1 := ⟨_, rfl⟩
      have e1 : (d : Int) + 1 = (d1 : Int) := by omega
      have hP1 := Go.Lib.hid (show cycleP (nxS N I) (dS N) N.length 0 = match firstS (fun s => walkP (nxS N I) d [s]) (dS X) with | some l => some l | none => cycleP (nxS N I) (dS N) k (d + 1) by rw [hP.out, hXd.out]; rfl)
      obtain ⟨F, hF⟩ : ∃ F : Str → Option (List Str), F = fun s => walkP (nxS N I) d [s] := ⟨_, rfl⟩
      rw [← hF] at hP1
      have HF := Go.Lib.hid hF
      have HD1 := Go.Lib.hid hd1
      rw [e1]
      have h2 : decide (d1 ≤ N.length) = true := decide_eq_true (by have := hd.out; omega)
      have h3 : d1 ≤ N.length := by have := hd.out; omega
      have hd19 : (d1 : Int) ≤ 16 := by omega
      clear h1
      clear hF hd1 e1 hP
      go_wp2_with fail
      go_loopg [29] X.length (fun k2 v29 wx => ∃ i : Nat, Hid (i + k2 = X.length) ∧ v29 = .int .i64 i ∧ Hid (firstS F (dS X) = firstS F ((dS X).drop i)) ∧ Hid (Below w5.heap.size w5 wx))
      case atStart => exact ⟨0, Go.Lib.hid (by omega), rfl, Go.Lib.hid (by simp), hB6⟩
      case round =>
        clear hB6
        obtain ⟨i, hi, rfl, hFS, hB6⟩ := hrel
        have hBw := Go.Lib.hid (HB5.out.trans (hB6.out.mono HB5.out.size))
        by_cases hlt : i < X.length
        · have hlt' : (i : Int) < (X.length : Int) := by omega
          have hi0 : (0 : Int) ≤ (i : Int) := by omega
          obtain ⟨m, hm⟩ : ∃ m, X[i]? = some m := ⟨_, List.getElem?_eq_getElem hlt⟩
          obtain ⟨adX, rfl, m0⟩ := (hRX.out.up hB6.out).at_ hm
          have hmN := Go.Lib.hid (show hasB N m = true from by
            have h1 : m.toList ∈ dS X := List.mem_map.2 ⟨m, List.mem_of_getElem? hm, rfl⟩
            rw [hXd.out, mem_sort] at h1
            exact hasB_mem.2 h1)
          have hdr := Go.Lib.hid (show (dS X).drop i = m.toList :: (dS X).drop (i + 1) from by
            have h1 : (dS X)[i]? = some m.toList := by unfold dS; rw [List.getElem?_map, hm]; rfl
            obtain ⟨hl2, h2⟩ := List.getElem?_eq_some_iff.1 h1
            rw [List.drop_eq_getElem_cons hl2, h2])
          have hFS1 := Go.Lib.hid (show firstS F (dS X) = match F m.toList with | some l => some l | none => firstS F ((dS X).drop (i + 1)) by rw [hFS.out, hdr.out]; rfl)
          have HLT := Go.Lib.hid hlt
          have hB7 := Go.Lib.hid (hBw.out.trans (below_alloc (Below.refl wr.heap.size wr) (.cells #[.string m] 9) |>.mono hBw.out.size))
          have hO7 := Go.Lib.hid (one_own wr m)
          have HWK := Go.Lib.hid (walk_calls N I HM.out A0 A1 c0 c1 d1 (by omega) hc0 hc1 d [m] (some ⟨wr.heap.size, 0, none⟩) 1 wr.heap.size _ (by have := HD1.out; simp; omega) (by simp) (fun q hq => by rw [List.mem_singleton.1 hq]; exact hmN.out) hO7.out (HR0.out.up hB7.out) (Kd.C_below HR1.out hB7.out))
          have hB8 := Go.Lib.hid (hB6.out.trans (below_alloc (Below.refl wr.heap.size wr) (.cells #[.string m] 9) |>.mono hB6.out.size))
          have HFM := Go.Lib.hid (show F m.toList = walkP (nxS N I) d (dS [m]) by rw [HF.out]; rfl)
          clear hlt hm hFS
          go_wp2_with fail
          refine HWK.out.mono ?_
          rintro e w10 ⟨hres, hb10⟩
          have hB10 := Go.Lib.hid (hB8.out.trans (hb10.mono hB8.out.size))
          have hnil := Go.Lib.hid (show F m.toList = none → firstS F (dS X) = firstS F ((dS X).drop (i + 1)) from fun h => by rw [hFS1.out, h])
          have hsom := Go.Lib.hid (show ∀ l, F m.toList = some l → cycleP (nxS N I) (dS N) N.length 0 = some l from fun l h => by rw [hP1.out, hFS1.out, h])
          rw [HFM.out] at hnil hsom
          cases hwp : walkP (nxS N I) d (dS [m]) with
          | none =>
            rw [hwp] at hres hnil
            have he : e = .returned (.slice none 0 0) := hres
            subst he
            have hn := Go.Lib.hid (hnil.out rfl)
            clear hwp hres hb10 HWK m0 hnil hsom
            go_wp2_with fail
            go_roundg (gk - 1)
            case measure => have := hi.out; have := HLT.out; omega
            case rel => exact ⟨i + 1, Go.Lib.hid (by have := hi.out; have := HLT.out; omega), by go_num, hn, hB10⟩
          | some l =>
            rw [hwp] at hres hsom
            obtain ⟨adL, cL, L, rfl, hL1, hL2, hL3⟩ := hres
            have hn := Go.Lib.hid (hsom.out l rfl)
            have HLL := Go.Lib.hid (show dS L = l ∧ RdS w10 (some adL) L ∧ L.length ≤ cL from ⟨hL1, hL2, hL3⟩)
            clear hwp hb10 HWK hL1 hL2 hL3 m0 hnil hsom
            go_wp2_with fail
            go_ret2
            refine ⟨?_, HB5.out.trans (hB10.out.mono HB5.out.size)⟩
            rw [hn.out]
            exact ⟨adL, cL, L, rfl, HLL.out⟩
        · have hjd : decide ((i : Int) < (X.length : Int)) = false := decide_eq_false (by omega)
          have hjd2 : decide (i < X.length) = false := decide_eq_false hlt
          have hjn : ¬ (i : Int) < (X.length : Int) := by omega
          have hn := Go.Lib.hid (show firstS F (dS X) = none by
            rw [hFS.out, List.drop_eq_nil_of_le (by rw [dS_length]; omega)]; rfl)
          have hn2 := Go.Lib.hid (show cycleP (nxS N I) (dS N) N.length 0 = cycleP (nxS N I) (dS N) k (d + 1) by rw [hP1.out, hn.out])
          clear hlt
          go_wp2_with fail
          go_roundg k
          case measure => exact Nat.lt_succ_self k
          case rel => exact ⟨d + 1, Go.Lib.hid (by have := hd.out; omega), by have h1 := HD1.out; congr 1; first | (unfold wrap64; omega) | go_num, hn2, hB6⟩
end Go.Proofs.Ytdobkkoonamocaa.Mo
