/- Mark walked. -/
import Derived.Test.YtchbjjefjmcakaaLk
import Derived.Deep.CutRange
import Derived.Deep.DeepCutAuto
import Derived.Deep.QuietTactic
import Derived.BigQuiet
import Derived.Deep.CutBlock
namespace Go.Proofs.Ytchbjjefjmcakaa.Lb
open Go.RowKit Go.Proofs.Ytchbjjefjmcakaa.PLayoutBlocks Go.Proofs.YtchbjjefjmcakaaW.PrintWords Go.Proofs.YtchbjjefjmcakaaW.PrintLast Go.Proofs.YtchbjjefjmcakaaW.PrintMore
set_option linter.unusedVariables false
set_option linter.unusedSimpArgs false
/-- Tokens that can be read. -/
def RdT (W : World) (A : Option Addr) (l : List S27) : Prop := k27.C W A l.length l
theorem RdT.up {W' : World} {A : Option Addr} {l : List S27} {w : World} (h : RdT w A l) (hb : Below w.heap.size w W') : RdT W' A l := Kd.C_below h hb
theorem RdT.at_ {W : World} {A : Option Addr} {l : List S27} (h : RdT W A l) {i : Nat} (hi : i < l.length) : ∃ ad, A = some ad ∧ W.cell? (ad.add (i * 5)) = some (.int .i64 (tk l (i : Int)).f0) ∧ W.cell? ⟨(ad.add (i * 5)).block, (ad.add (i * 5)).off + 1, none⟩ = some (.string (tk l (i : Int)).f1) ∧
    W.cell? ⟨(ad.add (i * 5)).block, (ad.add (i * 5)).off + 2, none⟩ = some (.int .i64 (tk l (i : Int)).f2) ∧ W.cell? ⟨(ad.add (i * 5)).block, (ad.add (i * 5)).off + 3, none⟩ = some (.int .i64 (tk l (i : Int)).f3) ∧ W.cell? ⟨(ad.add (i * 5)).block, (ad.add (i * 5)).off + 4, none⟩ = some (.int .i64 (tk l (i : Int)).f4) := by
  have h2 := at_T27 h (i : Int) (by omega) (by omega)
  rw [Int.toNat_natCast] at h2
  obtain ⟨ad, e, x0, x1, x2, x3, x4⟩ := h2
  exact ⟨ad, e, x0, x1, x2, x3, x4⟩
structure Good (l : List S27) : Prop where
  pos : 0 < l.length
  le : l.length ≤ 8193
  col : ∀ i, i < l.length → 1 ≤ (tk l (i : Int)).f4
/-- The marker's places. -/
def pm0 (w W : World) (g : Nat) : Pm := { w0 := w, hs := ⟨g, 0, none⟩, ho := ⟨g, 1, none⟩, ts := 35, tq := 35, es := 41, Kp := fun _ => False, W0 := W }
theorem pm0_ok {w W : World} {g : Nat} (h : w.heap.size ≤ g) : (pm0 w W g).ok :=
  ⟨fun e => (by injection e with _ e _; cases e), by show (41 : Nat) ≠ 35; decide, by show (41 : Nat) ≠ 35; decide, by show (27 : Nat) ≠ 35; decide, by show (27 : Nat) ≠ 35; decide, by show (41 : Nat) ≠ 27; decide, h, h⟩
theorem mark_start {w W : World} (hb : Below w.heap.size w W) : TwoE (pm0 w W W.heap.size) [] [] (W.alloc (.cells #[.slice none 0 0, .slice none 0 0] 35)) := by
  have h1 := blk_new W (.cells #[.slice none 0 0, .slice none 0 0] 35)
  exact ⟨none, 0, none, 0, pm0_ok hb.size, ⟨_, h1, rfl, rfl⟩, ⟨_, h1, rfl, rfl⟩, World.ownsRow_nil _ _ _ _, World.ownsRow_nil _ _ _ _, below_alloc hb _, by show W.heap.size ≤ _; simp, fun b h => h.elim, fun b h => h.elim⟩
theorem pm0_mkr (w W : World) (g : Nat) : Mkr (pm0 w W g) g := ⟨rfl, rfl, rfl⟩
theorem TwoE.below {p : Pm} {st : List Fr} {out : List S27} {W : World} (h : TwoE p st out W) : Below p.w0.heap.size p.w0 W := by
  obtain ⟨_, _, _, _, h⟩ := h
  exact h.below
theorem In.below {p : Pm} {W0 W : World} {t : S27} {st : List Fr} {out : List S27} (h : In p W0 t st out W) : Below p.w0.heap.size p.w0 W := by
  obtain ⟨_, _, _, _, h⟩ := h
  exact h.below
def mark.T17 : Bool × List (List Nat × List Nat) := (true, [([], []), ([], []), ([1], [1]), ([2], [2]), ([3], [3]), ([], []), ([5], [5]), ([], []), ([], []), ([8], [8]), ([7, 9], [7, 9]), ([10], [10]), ([11], [11]), ([6, 12], [6, 12]), ([13], [13]), ([4, 14], [4, 14]), ([0, 0, 1, 2, 3, 4, 5, 6, 7, 8, 9, 10, 11, 12, 13, 14, 15], [0]), ([16, 0, 1, 2, 3, 4, 5, 6, 7, 8, 9, 10, 11, 12, 13, 14, 15], [16]), ([17, 15, 15, 0, 1, 2, 3, 4, 5, 6, 7, 8, 9, 10, 11, 12, 13, 14, 15], [15, 17])])
def mark.B17 : List Nat := [0, 0, 2, 6, 14, 0, 32, 0, 0, 256, 896, 1920, 3968, 8160, 16352, 32766, 65535, 131071, 262143]
theorem mark.tab17 : rtab .any (opsOf Try.f4 17) = mark.T17 := by kernel_rfl
theorem mark.bits17 : waitsOk mark.T17.2 mark.B17 = true := by kernel_rfl
def mark.T23 : Bool × List (List Nat × List Nat) := (true, [([], []), ([], []), ([1], [1]), ([2], [2]), ([3], [3]), ([], []), ([5], [5]), ([4, 6], [4, 6]), ([0, 0, 1, 2, 3, 4, 5, 6, 7], [0]), ([8, 0, 1, 2, 3, 4, 5, 6, 7], [8]), ([9, 7, 7, 0, 1, 2, 3, 4, 5, 6, 7], [7, 9])])
def mark.B23 : List Nat := [0, 0, 2, 6, 14, 0, 32, 126, 255, 511, 1023]
theorem mark.tab23 : rtab .any (opsOf Try.f4 23) = mark.T23 := by kernel_rfl
theorem mark.bits23 : waitsOk mark.T23.2 mark.B23 = true := by kernel_rfl
def mark.T31 : Bool × List (List Nat × List Nat) := (true, [([], []), ([], []), ([1], [1]), ([2], [2]), ([3], [3]), ([], []), ([], []), ([6], [6]), ([7], [7]), ([5, 8], [5, 8]), ([9], [9]), ([10], [10]), ([4, 11], [4, 11]), ([0, 0, 1, 2, 3, 4, 5, 6, 7, 8, 9, 10, 11, 12], [0]), ([13, 0, 1, 2, 3, 4, 5, 6, 7, 8, 9, 10, 11, 12], [13]), ([14, 12, 12, 0, 1, 2, 3, 4, 5, 6, 7, 8, 9, 10, 11, 12], [12, 14])])
def mark.B31 : List Nat := [0, 0, 2, 6, 14, 0, 0, 64, 192, 480, 992, 2016, 4094, 8191, 16383, 32767]
theorem mark.tab31 : rtab .any (opsOf Try.f4 31) = mark.T31 := by kernel_rfl
theorem mark.bits31 : waitsOk mark.T31.2 mark.B31 = true := by kernel_rfl
set_option maxHeartbeats 16000000 in
set_option maxRecDepth 100000 in
theorem mark_ok (l : List S27) (A : Option Addr) (c : Nat) (w : World) (hR : RdT w A l) (hG : Good l) (hC : ∀ W, Below w.heap.size w W → Calls Try.prog 6 #[.slice A l.length c] W fun e w' => e = .returned (.int .i64 0) ∧ Below W.heap.size W w') :
    Calls Try.prog 4 #[.slice A l.length c] w fun e w' => (∃ (A' : Option Addr) (c' : Nat), e = .returned (.tuple #[.slice A' (markL l).length c', .int .i64 0]) ∧ w'.ownsRow w.heap.size 27 5 (.slice A' (markL l).length c') (markL l).length ((markL l).flatMap cT)) ∧ Below w.heap.size w w' := by
  have HC := Go.Lib.hid (hC w (Below.refl _ _))
  have HR := Go.Lib.hid hR
  have HG := Go.Lib.hid hG
  have hl : (l.length : Int) ≤ 9000 := by have := hG.le; omega
  have hl0 : (0 : Int) ≤ (l.length : Int) := by omega
  clear hC hR hG
  go_enter Try.func4, Try.ntmps4
  go_wp2_with fail
  refine HC.out.mono ?_
  rintro e w1 ⟨rfl, hb1⟩
  go_upto_block 0 with fail
  have H0 := Go.Lib.hid (mark_start hb1)
  have HM := Go.Lib.hid (pm0_mkr w w1 w1.heap.size)
  have HP0 := Go.Lib.hid (show (pm0 w w1 w1.heap.size).w0 = w from rfl)
  clear hb1 HC
  generalize w1.alloc (.cells #[.slice none 0 0, .slice none 0 0] 35) = w2 at *
  generalize pm0 w w1 w1.heap.size = p at *
  generalize w1.heap.size = g at *
  go_cut [6, 7, 8, 9, 19] from 20 to 127 (fun s6 s7 s8 s9 s19 wx => ∃ x : St, Hid (TwoE p x.1.reverse x.2 wx) ∧ Hid (goM l l.length 0 ([], []) = x) ∧ Hid (sz x ≤ 45000))
  case first =>
    go_wp2_with fail
    go_loopg [19] l.length (fun k v19 wr => ∃ (i : Nat) (x : St), Hid (i + k = l.length) ∧ v19 = .int .i64 i ∧ Hid (TwoE p x.1.reverse x.2 wr) ∧ Hid (goM l k i x = goM l l.length 0 ([], [])) ∧ Hid (sz x ≤ 5 * i))
    case atStart => exact ⟨0, ([], []), Go.Lib.hid (by omega), rfl, H0, Go.Lib.hid rfl, Go.Lib.hid (by decide)⟩
    case round =>
      clear H0
      obtain ⟨i, x, hi, rfl, hT, hS, hZ⟩ := hrel
      by_cases hlt : i < l.length
      · have hlt' : (i : Int) < (l.length : Int) := by omega
        have HLT := Go.Lib.hid hlt
        have hbw := Go.Lib.hid (show Below w.heap.size w wr from by have h := hT.out.below; rw [HP0.out] at h; exact h)
        obtain ⟨ad, rfl, x0, x1, x2, x3, x4⟩ := (HR.out.up hbw.out).at_ hlt
        have hcol := Go.Lib.hid (HG.out.col i hlt)
        have hIn := Go.Lib.hid (In.start (t := tk l (i : Int)) hT.out)
        have HPV := Go.Lib.hid (show ∀ j : Nat, i = j + 1 → ∀ W, Below w.heap.size w W → W.cell? (ad.add (j * 5)) = some (.int .i64 (tk l ((i : Int) - 1)).f0) ∧ W.cell? ⟨(ad.add (j * 5)).block, (ad.add (j * 5)).off + 1, none⟩ = some (.string (tk l ((i : Int) - 1)).f1) ∧
            W.cell? ⟨(ad.add (j * 5)).block, (ad.add (j * 5)).off + 2, none⟩ = some (.int .i64 (tk l ((i : Int) - 1)).f2) ∧ W.cell? ⟨(ad.add (j * 5)).block, (ad.add (j * 5)).off + 3, none⟩ = some (.int .i64 (tk l ((i : Int) - 1)).f3) ∧ W.cell? ⟨(ad.add (j * 5)).block, (ad.add (j * 5)).off + 4, none⟩ = some (.int .i64 (tk l ((i : Int) - 1)).f4) from fun j hj W hW => by
          obtain ⟨ad', e, h⟩ := (HR.out.up hW).at_ (show j < l.length by omega)
          cases e
          rw [show ((i : Int) - 1) = (j : Int) by omega]
          exact h)
        have HS := Go.Lib.hid (show goM l gk i x = if (tk l (i : Int)).f0 = 9 then (openM (opI i (tk l ((i : Int) - 1))) (fiB i (tk l ((i : Int) - 1)) (tk l (i : Int))) (tk l ((i : Int) - 1)) (tk l (i : Int)) x).1 else goM l (gk - 1) (i + 1) (restM (openM (opI i (tk l ((i : Int) - 1))) (fiB i (tk l ((i : Int) - 1)) (tk l (i : Int))) (tk l ((i : Int) - 1)) (tk l (i : Int)) x).2 (tk l (i : Int)) (openM (opI i (tk l ((i : Int) - 1))) (fiB i (tk l ((i : Int) - 1)) (tk l (i : Int))) (tk l ((i : Int) - 1)) (tk l (i : Int)) x).1) from by
          obtain ⟨d, hd⟩ : ∃ d, gk = d + 1 := ⟨gk - 1, by have := hi.out; omega⟩
          rw [hd]; rfl)
        have HOP := Go.Lib.hid (opens_calls (tk l ((i : Int) - 1)))
        generalize tk l ((i : Int) - 1) = pv at *
        generalize tk l (i : Int) = t at *
        clear hlt
        go_upto_region 8 with fail
        go_cut [8] from 24 to 36 (fun s8 wx => s8 = .bool (fiB i pv t) ∧ Hid (In p wr t x.1.reverse x.2 wx))
        case first =>
          by_cases h0 : i = 0
          · have h0' : (((i : Int) == 0) : Bool) = true := by simp [h0]
            have hf := Go.Lib.hid (show fiB i pv t = true by simp [fiB, h0])
            clear h0
            go_quiet (fail)
            go_wp2_with fail
            go_meet
            exact ⟨by rw [hf.out], Go.Lib.hid (hIn.out.up (pw_below_drewN (Below.refl _ _) _))⟩
          · obtain ⟨j, hj⟩ : ∃ j, i = j + 1 := ⟨i - 1, by omega⟩
            have h0' : (((i : Int) == 0) : Bool) = false := beq_eq_false_iff_ne.mpr (by omega)
            have hw : IntKind.i64.wrap ((i : Int) - 1) = (j : Int) := by rw [IntKind.wrap_i64]; omega
            have hj0 : (0 : Int) ≤ (j : Int) := by omega
            have hjl : (j : Int) < (l.length : Int) := by omega
            have y3 := (HPV.out j hj (wr.alloc (tO t)) (below_alloc hbw.out _)).2.2.2.1
            have b3 := hIn.out.box.c3
            have hf := Go.Lib.hid (show fiB i pv t = decide (pv.f3 < t.f3) by simp [fiB, h0])
            clear h0 hj
            go_quiet (fail)
            go_wp2_with fail
            go_meet
            exact ⟨by rw [hf.out], Go.Lib.hid (hIn.out.up (pw_below_drewN (Below.refl _ _) _))⟩
        case rest =>
          obtain ⟨rfl, hI1⟩ := hcut
          clear x0 x1 x2 x3 x4 hIn
          go_upto_region 9 with fail
          go_cut [9] from 37 to 46 (fun s9 wx => s9 = .bool (opI i pv) ∧ Hid (In p wr t x.1.reverse x.2 wx))
          case first =>
            by_cases h0 : i = 0
            · have h0' : decide ((i : Int) > 0) = false := decide_eq_false (by omega)
              have h0'' : decide ((0 : Int) < (i : Int)) = false := decide_eq_false (by omega)
              have h0n : decide (0 < i) = false := decide_eq_false (by omega)
              have hf := Go.Lib.hid (show opI i pv = false by simp [opI, h0])
              clear h0
              go_wp2_with fail
              go_meet
              exact ⟨by rw [hf.out], hI1⟩
            · obtain ⟨j, hj⟩ : ∃ j, i = j + 1 := ⟨i - 1, by omega⟩
              have h0' : decide ((i : Int) > 0) = true := decide_eq_true (by omega)
              have h0'' : decide ((0 : Int) < (i : Int)) = true := decide_eq_true (by omega)
              have h0n : decide (0 < i) = true := decide_eq_true (by omega)
              have hj0 : (0 : Int) ≤ (j : Int) := by omega
              have hjl : (j : Int) < (l.length : Int) := by omega
              have hij : (i : Int) - 1 = (j : Int) := by omega
              have hb1 := hI1.out.below
              rw [HP0.out] at hb1
              have hji : j = i - 1 := by omega
              have y := HPV.out j hj wc hb1
              rw [hji] at y
              obtain ⟨y0, y1, y2, y3, y4⟩ := y
              have hf := Go.Lib.hid (show opI i pv = opB pv by simp [opI]; omega)
              clear h0 hj hb1
              go_wp2_with fail
              refine (HOP.out _).mono ?_
              rintro e w5 ⟨rfl, hb5⟩
              have hI2 := Go.Lib.hid (hI1.out.up hb5)
              clear hb5
              go_wp2_with fail
              go_meet
              exact ⟨by rw [hf.out], hI2⟩
          case rest =>
            obtain ⟨rfl, hI2⟩ := hcut
            have HIJ := Go.Lib.hid (show opI i pv = true → ∃ j, i = j + 1 from fun h => ⟨i - 1, by simp [opI] at h; omega⟩)
            have HSZ := Go.Lib.hid (sz_open (opI i pv) (fiB i pv t) pv t x)
            have HO := Go.Lib.hid (show openM (opI i pv) (fiB i pv t) pv t x = _ from by unfold openM; exact rfl)
            have HRX := hS
            generalize hy : openM (opI i pv) (fiB i pv t) pv t x = y at *
            clear hy HOP
            generalize fiB i pv t = fi at *
            generalize opI i pv = op at *
            go_upto_block 2 with fail
            go_cut [8] from 47 to 90 (fun s8 wx => s8 = .bool y.2 ∧ Hid (In p wr t y.1.1.reverse y.1.2 wx))
            case first =>
              cases op with
              | false =>
                have hf := Go.Lib.hid (show y = (x, fi) by rw [HO.out]; rfl)
                go_wp2_with fail
                go_meet
                exact ⟨by rw [hf.out], by rw [hf.out]; exact hI2⟩
              | true =>
                obtain ⟨j, hj⟩ := HIJ.out rfl
                have HJ := Go.Lib.hid hj
                have ⟨b0, b1, b2, b3, b4⟩ := hI2.out.box
                have HIS := Go.Lib.hid (s123 ▸ is_calls t 5 ⟨#[123]⟩ wc)
                generalize isB t 5 [123] = q at HO HIS
                clear hj
                go_wp2_with fail
                refine HIS.out.mono ?_
                rintro e w5 ⟨rfl, hb5⟩
                have hI3 := Go.Lib.hid (hI2.out.up hb5)
                clear hb5 HIS b0 b1 b2 b3 b4
                cases q with
                | true =>
                  have hf := Go.Lib.hid (show y = (x, false) by rw [HO.out]; rfl)
                  go_wp2_with fail
                  go_meet
                  exact ⟨by rw [hf.out], by rw [hf.out]; exact hI3⟩
                | false =>
                  have HEN := Go.Lib.hid (show ∀ w', In p wr t x.1.reverse x.2 w' → Calls Try.prog 11 #[.pointer (some ⟨g, 0, none⟩)] w' fun e w2 => e = .returned (.int .i64 (encR x.1)) ∧ Below w'.heap.size w' w2 from fun w' h => by
                    have h1 := enc_calls HM.out.more h (by have h1 := hZ.out; have h2 := HLT.out; have h3 := HG.out.le; unfold sz at h1; rw [List.length_reverse]; omega)
                    rw [List.reverse_reverse] at h1
                    exact h1)
                  generalize encR x.1 = en at HO HEN
                  go_wp2_with fail
                  by_cases hk9 : t.f0 = 9
                  · have hk9' : (t.f0 != 9) = false := by simp [hk9]
                    have hf := Go.Lib.hid (show y = ((x.1, x.2 ++ [vt 6 t] ++ [vt 7 t]), fi) by rw [HO.out]; simp [hk9])
                    have ⟨b0, b1, b2, b3, b4⟩ := hI3.out.box
                    clear hk9 HEN
                    go_quiet (fail)
                    go_wp2_with fail
                    have hI5 := Go.Lib.hid (hI3.out.up (pw_below_drewN (Below.refl w5.heap.size w5) nq))
                    clear b0 b1 b2 b3 b4
                    generalize w5.drewN nq = w55 at *
                    have ⟨b0, b1, b2, b3, b4⟩ := hI5.out.box
                    have HPU := Go.Lib.hid (putE HM.out.more 6 t hI5.out (by have h1 := hZ.out; have h2 := HLT.out; have h3 := HG.out.le; unfold sz at h1; omega))
                    clear hI3
                    go_wp2_with fail
                    refine HPU.out.mono ?_
                    rintro e w6 ⟨rfl, hI6⟩
                    have hI6 : Hid (In p wr t x.1.reverse (x.2 ++ [vt 6 t]) w6) := Go.Lib.hid hI6
                    clear HPU hI5 b0 b1 b2 b3 b4
                    have ⟨b0, b1, b2, b3, b4⟩ := hI6.out.box
                    have HPU := Go.Lib.hid (putE HM.out.more 7 t hI6.out (by have h1 := hZ.out; have h2 := HLT.out; have h3 := HG.out.le; unfold sz at h1; simp; omega))
                    go_wp2_with fail
                    refine HPU.out.mono ?_
                    rintro e w7 ⟨rfl, hI7⟩
                    have hI7 : Hid (In p wr t x.1.reverse (x.2 ++ [vt 6 t] ++ [vt 7 t]) w7) := Go.Lib.hid hI7
                    clear HPU hI6 b0 b1 b2 b3 b4
                    go_wp2_with fail
                    go_meet
                    exact ⟨by rw [hf.out], by rw [hf.out]; exact hI7⟩
                  · have hk9' : (t.f0 != 9) = true := by simp [hk9]
                    by_cases hd : en < t.f4
                    · have hd' : decide (en < t.f4) = true := decide_eq_true hd
                      have hd'' : decide (t.f4 > en) = true := decide_eq_true hd
                      have hf := Go.Lib.hid (show y = (((t.f4, pv.f1) :: x.1, x.2 ++ [vt 6 t]), false) by rw [HO.out]; simp [hk9, hd])
                      clear hk9 hd
                      go_region_held3 (fun w' => w'.cell? ⟨wr.heap.size, 0, none⟩ = some (.int .i64 t.f0) ∧ w'.cell? ⟨wr.heap.size, 4, none⟩ = some (.int .i64 t.f4) ∧ Hid (In p wr t x.1.reverse x.2 w')) (first | exact ⟨hI5.out.box.c0, hI5.out.box.c4, hI5⟩ | exact ⟨(hI3.out.up (below_drew1 (Below.refl _ _))).box.c0, (hI3.out.up (below_drew1 (Below.refl _ _))).box.c4, Go.Lib.hid (hI3.out.up (below_drew1 (Below.refl _ _)))⟩) (first
                        | (go_at_call 11; refine (HEN.out _ (‹_ ∧ _ ∧ Hid (In p wr t x.1.reverse x.2 _)›).2.2.out).mono ?_; rintro e wn ⟨rfl, hbn⟩; have hI5 := Go.Lib.hid ((‹_ ∧ _ ∧ Hid (In p wr t x.1.reverse x.2 _)›).2.2.out.up hbn); clear hbn))
                      rename_i hHeldX
                      clear hHeldX HEN
                      have ⟨b0, b1, b2, b3, b4⟩ := hI5.out.box
                      have HPU := Go.Lib.hid (putE HM.out.more 6 t hI5.out (by have h1 := hZ.out; have h2 := HLT.out; have h3 := HG.out.le; unfold sz at h1; omega))
                      clear hI3
                      go_wp2_with fail
                      refine HPU.out.mono ?_
                      rintro e w6 ⟨rfl, hI6⟩
                      have hI6 : Hid (In p wr t x.1.reverse (x.2 ++ [vt 6 t]) w6) := Go.Lib.hid hI6
                      clear HPU hI5 b0 b1 b2 b3 b4
                      go_wp2_with fail
                      have hj := HJ.out
                      have hst : x.1.reverse.length = x.1.length := List.length_reverse
                      obtain ⟨st, hste⟩ : ∃ st, st = x.1.reverse := ⟨_, rfl⟩
                      obtain ⟨out, houte⟩ : ∃ out, out = x.2 ++ [vt 6 t] := ⟨_, rfl⟩
                      obtain ⟨pm, hpm⟩ : ∃ pm, pm = p.more wr.heap.size (wr.alloc (tO t)) := ⟨_, rfl⟩
                      have HPM := Go.Lib.hid hpm
                      have HST := Go.Lib.hid hste
                      have HOU := Go.Lib.hid houte
                      have hm : Mkr pm g := by rw [hpm]; exact HM.out.more
                      have HLS := Go.Lib.hid (show st.length < 1000000 by rw [hste, hst]; have h1 := hZ.out; have h2 := HLT.out; have h3 := HG.out.le; unfold sz at h1; omega)
                      obtain ⟨As, cs, Ao, co, hT17⟩ := hI6.out
                      rw [← hste, ← houte, ← hpm] at hT17
                      have HBX := Go.Lib.hid (show ∀ W', Two pm As cs st Ao co out W' → W'.heap[wr.heap.size]? = some (tO t) from fun W' h => by
                        rw [hpm] at h; exact h.box (blk_new wr (tO t)))
                      have HBW := Go.Lib.hid (show ∀ W', Two pm As cs st Ao co out W' → Below w.heap.size w W' from fun W' h => by
                        have h1 := h.below
                        rw [hpm] at h1
                        have e : (p.more wr.heap.size (wr.alloc (tO t))).w0 = w := HP0.out
                        rw [e] at h1; exact h1)
                      obtain ⟨ns, hns⟩ : ∃ ns, ns = st.length := ⟨_, rfl⟩
                      have HNS := Go.Lib.hid hns
                      have H0 := Go.Lib.hid hT17.drew
                      have hw : IntKind.i64.wrap ((i : Int) - 1) = (j : Int) := by rw [IntKind.wrap_i64]; omega
                      have hj0 : (0 : Int) ≤ (j : Int) := by omega
                      have hjl : (j : Int) < (l.length : Int) := by omega
                      clear hj hst hste houte hpm hT17 hns HIJ
                      refine start_ (n := 19) (S := fun w' => True) (ds := []) #[false, false, false, false, false, false, false, false, false, false, false, false, false, false, false, false, false, false, false] (by kernel_rfl) rfl rfl trivial (fun hHeld => ?_)
                      refine with_tabW mark.tab17 mark.bits17 (fun HT_ HW_ => ?_)
                      refine inv_at [0, 1, 2, 3, 4, 5, 6, 7, 8, 9, 10, 11, 12, 13, 14, 15, 16, 17, 18] (fun a0_ b a w' => ∃ (gb : Nat) (A1 : Option Addr) (c1 : Nat) (m14_ : Value) (m15_ : Value), a = putSel a0_ b [(0, 73, .pointer (some ⟨g, 0, none⟩)), (1, 74, .pointer (some ⟨g, 0, none⟩)), (2, 75, .pointer (some ⟨g, 0, none⟩)), (3, 76, .pointer (some ⟨g, 0, none⟩)), (4, 77, .slice As ns cs), (5, 78, .pointer (some ⟨wr.heap.size, 4, none⟩)), (6, 79, .int .i64 t.f4), (7, 80, .slice (some ad) l.length c), (8, 81, .int .i64 (i : Int)), (9, 82, .int .i64 (j : Int)), (10, 83, .pointer (some (ad.add (j * 5)))), (11, 84, .pointer (some ⟨(ad.add (j * 5)).block, (ad.add (j * 5)).off + 1, none⟩)), (12, 85, .string pv.f1), (13, 86, .agg #[.int .i64 t.f4, .string pv.f1]), (14, 87, m14_), (15, 88, m15_), (16, 89, .pointer (some ⟨g, 0, none⟩)), (17, 90, .pointer (some ⟨g, 0, none⟩))] ∧ (b 15 = false → Two pm As cs st Ao co out w') ∧ (b 14 = true → b 15 = false → w'.heap[gb]? = some (.cells #[.int .i64 t.f4, .string pv.f1] 41)) ∧ (b 15 = true → b 18 = false → PendS pm As cs st Ao co out ((t.f4, pv.f1)) (.slice A1 (ns + 1) c1) w') ∧ (b 18 = true → TwoE pm (st ++ [(t.f4, pv.f1)]) out w') ∧ (b 14 = true → (m14_ : Value) = .slice (some ⟨gb, 0, none⟩) 1 1) ∧ (b 15 = true → (m15_ : Value) = .slice A1 (ns + 1) c1)) HT_.out HW_.out (by kernel_rfl) (by kernel_rfl) ?_ ?_ ?_
                      · exact ⟨0, none, 0, .bool false, .bool false, by simp only [putSel, Bool.false_eq_true, if_false], fun _ => H0.out, fun h_ => absurd h_ (by decide), fun h_ => absurd h_ (by decide), fun h_ => absurd h_ (by decide), fun h_ => absurd h_ (by decide), fun h_ => absurd h_ (by decide)⟩
                      · skip
                        refine steps_cons ?_ ?_
                        · rintro b a w' ⟨gb, A1, c1, m14_, m15_, ha, Q_TW, Q_GB, Q_PW, Q_TZ, Q_X14_, Q_X15_⟩ hb_ hon hoff
                          refine ⟨_, rfl, fun K hK => ?_⟩
                          have e5 : a.tmps[5]? = some (.pointer (some ⟨g, 0, none⟩)) := by rw [ha]; exact (putSel_off rfl).trans rfl
                          replace ha := Aside0.mk ha
                          refine value_ (w1 := w') (v := .pointer (some ⟨g, 0, none⟩)) (by rfl) rfl ?_ ?_
                          · go_simp
                            (try simp only [i64_w])
                            try rfl
                          refine hK.out _ _ ⟨gb, A1, c1, m14_, m15_, (by rw [ha.out]; exact putSel_upk 0 hb_ rfl rfl rfl), Q_TW, Q_GB, Q_PW, fun h0_ => absurd ((hoff 18 (by kernel_rfl)).symm.trans h0_) (by decide), Q_X14_, Q_X15_⟩
                        refine steps_cons ?_ ?_
                        · rintro b a w' ⟨gb, A1, c1, m14_, m15_, ha, Q_TW, Q_GB, Q_PW, Q_TZ, Q_X14_, Q_X15_⟩ hb_ hon hoff
                          refine ⟨_, rfl, fun K hK => ?_⟩
                          have e5 : a.tmps[5]? = some (.pointer (some ⟨g, 0, none⟩)) := by rw [ha]; exact (putSel_off rfl).trans rfl
                          replace ha := Aside0.mk ha
                          have TW := Aside0.mk (Q_TW (hoff 15 (by kernel_rfl)))
                          refine value_ (w1 := w') (v := .pointer (some ⟨g, 0, none⟩)) (by rfl) rfl ?_ ?_
                          · go_simp
                            (try simp only [i64_w])
                            try rfl
                          refine hK.out _ _ ⟨gb, A1, c1, m14_, m15_, (by rw [ha.out]; exact putSel_upk 1 hb_ rfl rfl rfl), Q_TW, Q_GB, fun h0_ _ => absurd ((hoff 15 (by kernel_rfl)).symm.trans h0_) (by decide), fun h0_ => absurd ((hoff 18 (by kernel_rfl)).symm.trans h0_) (by decide), Q_X14_, fun h0_ => absurd ((hoff 15 (by kernel_rfl)).symm.trans h0_) (by decide)⟩
                        refine steps_cons ?_ ?_
                        · rintro b a w' ⟨gb, A1, c1, m14_, m15_, ha, Q_TW, Q_GB, Q_PW, Q_TZ, Q_X14_, Q_X15_⟩ hb_ hon hoff
                          refine ⟨_, rfl, fun K hK => ?_⟩
                          have e74 : a.tmps[74]? = some (.pointer (some ⟨g, 0, none⟩)) := by rw [ha]; exact putSel_on (e := (1, 74, .pointer (some ⟨g, 0, none⟩))) 1 rfl rfl (hon 1 (by kernel_rfl)) rfl
                          replace ha := Aside0.mk ha
                          have TW := Aside0.mk (Q_TW (hoff 15 (by kernel_rfl)))
                          refine value_ (w1 := w') (v := .pointer (some ⟨g, 0, none⟩)) (by rfl) rfl ?_ ?_
                          · go_simp
                            (try simp only [i64_w])
                            try rfl
                          refine hK.out _ _ ⟨gb, A1, c1, m14_, m15_, (by rw [ha.out]; exact putSel_upk 2 hb_ rfl rfl rfl), Q_TW, Q_GB, fun h0_ _ => absurd ((hoff 15 (by kernel_rfl)).symm.trans h0_) (by decide), fun h0_ => absurd ((hoff 18 (by kernel_rfl)).symm.trans h0_) (by decide), Q_X14_, fun h0_ => absurd ((hoff 15 (by kernel_rfl)).symm.trans h0_) (by decide)⟩
                        refine steps_cons ?_ ?_
                        · rintro b a w' ⟨gb, A1, c1, m14_, m15_, ha, Q_TW, Q_GB, Q_PW, Q_TZ, Q_X14_, Q_X15_⟩ hb_ hon hoff
                          refine ⟨_, rfl, fun K hK => ?_⟩
                          have e75 : a.tmps[75]? = some (.pointer (some ⟨g, 0, none⟩)) := by rw [ha]; exact putSel_on (e := (2, 75, .pointer (some ⟨g, 0, none⟩))) 2 rfl rfl (hon 2 (by kernel_rfl)) rfl
                          replace ha := Aside0.mk ha
                          have TW := Aside0.mk (Q_TW (hoff 15 (by kernel_rfl)))
                          refine value_ (w1 := w') (v := .pointer (some ⟨g, 0, none⟩)) (by rfl) rfl ?_ ?_
                          · go_simp
                            (try simp only [i64_w])
                            try rfl
                          refine hK.out _ _ ⟨gb, A1, c1, m14_, m15_, (by rw [ha.out]; exact putSel_upk 3 hb_ rfl rfl rfl), Q_TW, Q_GB, fun h0_ _ => absurd ((hoff 15 (by kernel_rfl)).symm.trans h0_) (by decide), fun h0_ => absurd ((hoff 18 (by kernel_rfl)).symm.trans h0_) (by decide), Q_X14_, fun h0_ => absurd ((hoff 15 (by kernel_rfl)).symm.trans h0_) (by decide)⟩
                        refine steps_cons ?_ ?_
                        · rintro b a w' ⟨gb, A1, c1, m14_, m15_, ha, Q_TW, Q_GB, Q_PW, Q_TZ, Q_X14_, Q_X15_⟩ hb_ hon hoff
                          refine ⟨_, rfl, fun K hK => ?_⟩
                          have e76 : a.tmps[76]? = some (.pointer (some ⟨g, 0, none⟩)) := by rw [ha]; exact putSel_on (e := (3, 76, .pointer (some ⟨g, 0, none⟩))) 3 rfl rfl (hon 3 (by kernel_rfl)) rfl
                          replace ha := Aside0.mk ha
                          have TW := Aside0.mk (Q_TW (hoff 15 (by kernel_rfl)))
                          have hc0_ : w'.cell? ⟨g, 0, none⟩ = some (.slice As ns cs) := (by have h_ := TW.out.cS; rw [hm.hs, ← HNS.out] at h_; exact h_)
                          refine value_ (w1 := w') (v := .slice As ns cs) (by rfl) rfl ?_ ?_
                          · go_simp
                            (try simp only [i64_w])
                            try rfl
                          refine hK.out _ _ ⟨gb, A1, c1, m14_, m15_, (by rw [ha.out]; exact putSel_upk 4 hb_ rfl rfl rfl), Q_TW, Q_GB, fun h0_ _ => absurd ((hoff 15 (by kernel_rfl)).symm.trans h0_) (by decide), fun h0_ => absurd ((hoff 18 (by kernel_rfl)).symm.trans h0_) (by decide), Q_X14_, fun h0_ => absurd ((hoff 15 (by kernel_rfl)).symm.trans h0_) (by decide)⟩
                        refine steps_cons ?_ ?_
                        · rintro b a w' ⟨gb, A1, c1, m14_, m15_, ha, Q_TW, Q_GB, Q_PW, Q_TZ, Q_X14_, Q_X15_⟩ hb_ hon hoff
                          refine ⟨_, rfl, fun K hK => ?_⟩
                          have e7 : a.tmps[7]? = some (.pointer (some ⟨wr.heap.size, 0, none⟩)) := by rw [ha]; exact (putSel_off rfl).trans rfl
                          replace ha := Aside0.mk ha
                          have TW := Aside0.mk (Q_TW (hoff 15 (by kernel_rfl)))
                          refine value_ (w1 := w') (v := .pointer (some ⟨wr.heap.size, 4, none⟩)) (by rfl) rfl ?_ ?_
                          · go_simp
                            (try simp only [i64_w])
                            try rfl
                          refine hK.out _ _ ⟨gb, A1, c1, m14_, m15_, (by rw [ha.out]; exact putSel_upk 5 hb_ rfl rfl rfl), Q_TW, fun h0_ _ => absurd ((hoff 14 (by kernel_rfl)).symm.trans h0_) (by decide), fun h0_ _ => absurd ((hoff 15 (by kernel_rfl)).symm.trans h0_) (by decide), fun h0_ => absurd ((hoff 18 (by kernel_rfl)).symm.trans h0_) (by decide), fun h0_ => absurd ((hoff 14 (by kernel_rfl)).symm.trans h0_) (by decide), fun h0_ => absurd ((hoff 15 (by kernel_rfl)).symm.trans h0_) (by decide)⟩
                        refine steps_cons ?_ ?_
                        · rintro b a w' ⟨gb, A1, c1, m14_, m15_, ha, Q_TW, Q_GB, Q_PW, Q_TZ, Q_X14_, Q_X15_⟩ hb_ hon hoff
                          refine ⟨_, rfl, fun K hK => ?_⟩
                          have e78 : a.tmps[78]? = some (.pointer (some ⟨wr.heap.size, 4, none⟩)) := by rw [ha]; exact putSel_on (e := (5, 78, .pointer (some ⟨wr.heap.size, 4, none⟩))) 5 rfl rfl (hon 5 (by kernel_rfl)) rfl
                          replace ha := Aside0.mk ha
                          have TW := Aside0.mk (Q_TW (hoff 15 (by kernel_rfl)))
                          have hc0_ : w'.cell? ⟨wr.heap.size, 4, none⟩ = some (.int .i64 t.f4) := (blk_cell (HBX.out _ TW.out) 4).trans rfl
                          refine value_ (w1 := w') (v := .int .i64 t.f4) (by rfl) rfl ?_ ?_
                          · go_simp
                            (try simp only [i64_w])
                            try rfl
                          refine hK.out _ _ ⟨gb, A1, c1, m14_, m15_, (by rw [ha.out]; exact putSel_upk 6 hb_ rfl rfl rfl), Q_TW, fun h0_ _ => absurd ((hoff 14 (by kernel_rfl)).symm.trans h0_) (by decide), fun h0_ _ => absurd ((hoff 15 (by kernel_rfl)).symm.trans h0_) (by decide), fun h0_ => absurd ((hoff 18 (by kernel_rfl)).symm.trans h0_) (by decide), fun h0_ => absurd ((hoff 14 (by kernel_rfl)).symm.trans h0_) (by decide), fun h0_ => absurd ((hoff 15 (by kernel_rfl)).symm.trans h0_) (by decide)⟩
                        refine steps_cons ?_ ?_
                        · rintro b a w' ⟨gb, A1, c1, m14_, m15_, ha, Q_TW, Q_GB, Q_PW, Q_TZ, Q_X14_, Q_X15_⟩ hb_ hon hoff
                          refine ⟨_, rfl, fun K hK => ?_⟩
                          have e0 : a.tmps[0]? = some (.slice (some ad) l.length c) := by rw [ha]; exact (putSel_off rfl).trans rfl
                          replace ha := Aside0.mk ha
                          have TW := Aside0.mk (Q_TW (hoff 15 (by kernel_rfl)))
                          refine value_ (w1 := w') (v := .slice (some ad) l.length c) (by rfl) rfl ?_ ?_
                          · go_simp
                            (try simp only [i64_w])
                            try rfl
                          refine hK.out _ _ ⟨gb, A1, c1, m14_, m15_, (by rw [ha.out]; exact putSel_upk 7 hb_ rfl rfl rfl), Q_TW, fun h0_ _ => absurd ((hoff 14 (by kernel_rfl)).symm.trans h0_) (by decide), fun h0_ _ => absurd ((hoff 15 (by kernel_rfl)).symm.trans h0_) (by decide), fun h0_ => absurd ((hoff 18 (by kernel_rfl)).symm.trans h0_) (by decide), fun h0_ => absurd ((hoff 14 (by kernel_rfl)).symm.trans h0_) (by decide), fun h0_ => absurd ((hoff 15 (by kernel_rfl)).symm.trans h0_) (by decide)⟩
                        refine steps_cons ?_ ?_
                        · rintro b a w' ⟨gb, A1, c1, m14_, m15_, ha, Q_TW, Q_GB, Q_PW, Q_TZ, Q_X14_, Q_X15_⟩ hb_ hon hoff
                          refine ⟨_, rfl, fun K hK => ?_⟩
                          have e6 : a.tmps[6]? = some (.int .i64 (i : Int)) := by rw [ha]; exact (putSel_off rfl).trans rfl
                          replace ha := Aside0.mk ha
                          have TW := Aside0.mk (Q_TW (hoff 15 (by kernel_rfl)))
                          refine value_ (w1 := w') (v := .int .i64 (i : Int)) (by rfl) rfl ?_ ?_
                          · go_simp
                            (try simp only [i64_w])
                            try rfl
                          refine hK.out _ _ ⟨gb, A1, c1, m14_, m15_, (by rw [ha.out]; exact putSel_upk 8 hb_ rfl rfl rfl), Q_TW, fun h0_ _ => absurd ((hoff 14 (by kernel_rfl)).symm.trans h0_) (by decide), fun h0_ _ => absurd ((hoff 15 (by kernel_rfl)).symm.trans h0_) (by decide), fun h0_ => absurd ((hoff 18 (by kernel_rfl)).symm.trans h0_) (by decide), fun h0_ => absurd ((hoff 14 (by kernel_rfl)).symm.trans h0_) (by decide), fun h0_ => absurd ((hoff 15 (by kernel_rfl)).symm.trans h0_) (by decide)⟩
                        refine steps_cons ?_ ?_
                        · rintro b a w' ⟨gb, A1, c1, m14_, m15_, ha, Q_TW, Q_GB, Q_PW, Q_TZ, Q_X14_, Q_X15_⟩ hb_ hon hoff
                          refine ⟨_, rfl, fun K hK => ?_⟩
                          have e81 : a.tmps[81]? = some (.int .i64 (i : Int)) := by rw [ha]; exact putSel_on (e := (8, 81, .int .i64 (i : Int))) 8 rfl rfl (hon 8 (by kernel_rfl)) rfl
                          replace ha := Aside0.mk ha
                          have TW := Aside0.mk (Q_TW (hoff 15 (by kernel_rfl)))
                          refine value_ (w1 := w') (v := .int .i64 (j : Int)) (by rfl) rfl ?_ ?_
                          · go_simp
                            (try simp only [i64_w])
                            try rfl
                          refine hK.out _ _ ⟨gb, A1, c1, m14_, m15_, (by rw [ha.out]; exact putSel_upk 9 hb_ rfl rfl rfl), Q_TW, fun h0_ _ => absurd ((hoff 14 (by kernel_rfl)).symm.trans h0_) (by decide), fun h0_ _ => absurd ((hoff 15 (by kernel_rfl)).symm.trans h0_) (by decide), fun h0_ => absurd ((hoff 18 (by kernel_rfl)).symm.trans h0_) (by decide), fun h0_ => absurd ((hoff 14 (by kernel_rfl)).symm.trans h0_) (by decide), fun h0_ => absurd ((hoff 15 (by kernel_rfl)).symm.trans h0_) (by decide)⟩
                        refine steps_cons ?_ ?_
                        · rintro b a w' ⟨gb, A1, c1, m14_, m15_, ha, Q_TW, Q_GB, Q_PW, Q_TZ, Q_X14_, Q_X15_⟩ hb_ hon hoff
                          refine ⟨_, rfl, fun K hK => ?_⟩
                          have e80 : a.tmps[80]? = some (.slice (some ad) l.length c) := by rw [ha]; exact putSel_on (e := (7, 80, .slice (some ad) l.length c)) 7 rfl rfl (hon 7 (by kernel_rfl)) rfl
                          have e82 : a.tmps[82]? = some (.int .i64 (j : Int)) := by rw [ha]; exact putSel_on (e := (9, 82, .int .i64 (j : Int))) 9 rfl rfl (hon 9 (by kernel_rfl)) rfl
                          replace ha := Aside0.mk ha
                          have TW := Aside0.mk (Q_TW (hoff 15 (by kernel_rfl)))
                          refine value_ (w1 := w') (v := .pointer (some (ad.add (j * 5)))) (by rfl) rfl ?_ ?_
                          · go_simp
                            (try simp only [i64_w])
                            try rfl
                          refine hK.out _ _ ⟨gb, A1, c1, m14_, m15_, (by rw [ha.out]; exact putSel_upk 10 hb_ rfl rfl rfl), Q_TW, fun h0_ _ => absurd ((hoff 14 (by kernel_rfl)).symm.trans h0_) (by decide), fun h0_ _ => absurd ((hoff 15 (by kernel_rfl)).symm.trans h0_) (by decide), fun h0_ => absurd ((hoff 18 (by kernel_rfl)).symm.trans h0_) (by decide), fun h0_ => absurd ((hoff 14 (by kernel_rfl)).symm.trans h0_) (by decide), fun h0_ => absurd ((hoff 15 (by kernel_rfl)).symm.trans h0_) (by decide)⟩
                        refine steps_cons ?_ ?_
                        · rintro b a w' ⟨gb, A1, c1, m14_, m15_, ha, Q_TW, Q_GB, Q_PW, Q_TZ, Q_X14_, Q_X15_⟩ hb_ hon hoff
                          refine ⟨_, rfl, fun K hK => ?_⟩
                          have e83 : a.tmps[83]? = some (.pointer (some (ad.add (j * 5)))) := by rw [ha]; exact putSel_on (e := (10, 83, .pointer (some (ad.add (j * 5))))) 10 rfl rfl (hon 10 (by kernel_rfl)) rfl
                          replace ha := Aside0.mk ha
                          have TW := Aside0.mk (Q_TW (hoff 15 (by kernel_rfl)))
                          refine value_ (w1 := w') (v := .pointer (some ⟨(ad.add (j * 5)).block, (ad.add (j * 5)).off + 1, none⟩)) (by rfl) rfl ?_ ?_
                          · go_simp
                            (try simp only [i64_w])
                            try rfl
                          refine hK.out _ _ ⟨gb, A1, c1, m14_, m15_, (by rw [ha.out]; exact putSel_upk 11 hb_ rfl rfl rfl), Q_TW, fun h0_ _ => absurd ((hoff 14 (by kernel_rfl)).symm.trans h0_) (by decide), fun h0_ _ => absurd ((hoff 15 (by kernel_rfl)).symm.trans h0_) (by decide), fun h0_ => absurd ((hoff 18 (by kernel_rfl)).symm.trans h0_) (by decide), fun h0_ => absurd ((hoff 14 (by kernel_rfl)).symm.trans h0_) (by decide), fun h0_ => absurd ((hoff 15 (by kernel_rfl)).symm.trans h0_) (by decide)⟩
                        refine steps_cons ?_ ?_
                        · rintro b a w' ⟨gb, A1, c1, m14_, m15_, ha, Q_TW, Q_GB, Q_PW, Q_TZ, Q_X14_, Q_X15_⟩ hb_ hon hoff
                          refine ⟨_, rfl, fun K hK => ?_⟩
                          have e84 : a.tmps[84]? = some (.pointer (some ⟨(ad.add (j * 5)).block, (ad.add (j * 5)).off + 1, none⟩)) := by rw [ha]; exact putSel_on (e := (11, 84, .pointer (some ⟨(ad.add (j * 5)).block, (ad.add (j * 5)).off + 1, none⟩))) 11 rfl rfl (hon 11 (by kernel_rfl)) rfl
                          replace ha := Aside0.mk ha
                          have TW := Aside0.mk (Q_TW (hoff 15 (by kernel_rfl)))
                          have hc0_ : w'.cell? ⟨(ad.add (j * 5)).block, (ad.add (j * 5)).off + 1, none⟩ = some (.string pv.f1) := (HPV.out j HJ.out w' (HBW.out _ TW.out)).2.1
                          refine value_ (w1 := w') (v := .string pv.f1) (by rfl) rfl ?_ ?_
                          · go_simp
                            (try simp only [i64_w])
                            try rfl
                          refine hK.out _ _ ⟨gb, A1, c1, m14_, m15_, (by rw [ha.out]; exact putSel_upk 12 hb_ rfl rfl rfl), Q_TW, fun h0_ _ => absurd ((hoff 14 (by kernel_rfl)).symm.trans h0_) (by decide), fun h0_ _ => absurd ((hoff 15 (by kernel_rfl)).symm.trans h0_) (by decide), fun h0_ => absurd ((hoff 18 (by kernel_rfl)).symm.trans h0_) (by decide), fun h0_ => absurd ((hoff 14 (by kernel_rfl)).symm.trans h0_) (by decide), fun h0_ => absurd ((hoff 15 (by kernel_rfl)).symm.trans h0_) (by decide)⟩
                        refine steps_cons ?_ ?_
                        · rintro b a w' ⟨gb, A1, c1, m14_, m15_, ha, Q_TW, Q_GB, Q_PW, Q_TZ, Q_X14_, Q_X15_⟩ hb_ hon hoff
                          refine ⟨_, rfl, fun K hK => ?_⟩
                          have e79 : a.tmps[79]? = some (.int .i64 t.f4) := by rw [ha]; exact putSel_on (e := (6, 79, .int .i64 t.f4)) 6 rfl rfl (hon 6 (by kernel_rfl)) rfl
                          have e85 : a.tmps[85]? = some (.string pv.f1) := by rw [ha]; exact putSel_on (e := (12, 85, .string pv.f1)) 12 rfl rfl (hon 12 (by kernel_rfl)) rfl
                          replace ha := Aside0.mk ha
                          have TW := Aside0.mk (Q_TW (hoff 15 (by kernel_rfl)))
                          refine value_ (w1 := w') (v := .agg #[.int .i64 t.f4, .string pv.f1]) (by rfl) rfl ?_ ?_
                          · go_simp
                            (try simp only [i64_w])
                            try rfl
                          refine hK.out _ _ ⟨gb, A1, c1, m14_, m15_, (by rw [ha.out]; exact putSel_upk 13 hb_ rfl rfl rfl), Q_TW, fun h0_ _ => absurd ((hoff 14 (by kernel_rfl)).symm.trans h0_) (by decide), fun h0_ _ => absurd ((hoff 15 (by kernel_rfl)).symm.trans h0_) (by decide), fun h0_ => absurd ((hoff 18 (by kernel_rfl)).symm.trans h0_) (by decide), fun h0_ => absurd ((hoff 14 (by kernel_rfl)).symm.trans h0_) (by decide), fun h0_ => absurd ((hoff 15 (by kernel_rfl)).symm.trans h0_) (by decide)⟩
                        refine steps_cons ?_ ?_
                        · rintro b a w' ⟨gb, A1, c1, m14_, m15_, ha, Q_TW, Q_GB, Q_PW, Q_TZ, Q_X14_, Q_X15_⟩ hb_ hon hoff
                          refine ⟨_, rfl, fun K hK => ?_⟩
                          have e86 : a.tmps[86]? = some (.agg #[.int .i64 t.f4, .string pv.f1]) := by rw [ha]; exact putSel_on (e := (13, 86, .agg #[.int .i64 t.f4, .string pv.f1])) 13 rfl rfl (hon 13 (by kernel_rfl)) rfl
                          replace ha := Aside0.mk ha
                          have TW := Aside0.mk (Q_TW (hoff 15 (by kernel_rfl)))
                          refine value_ (w1 := w'.alloc (.cells #[.int .i64 t.f4, .string pv.f1] 41)) (v := .slice (some ⟨w'.heap.size, 0, none⟩) 1 1) (by rfl) rfl ?_ ?_
                          · go_simp
                          have hn_ : (w'.alloc (.cells #[.int .i64 t.f4, .string pv.f1] 41)).heap[w'.heap.size]? = some (.cells #[.int .i64 t.f4, .string pv.f1] 41) := blk_new _ _
                          have hbw_ : Below w'.heap.size w' (w'.alloc (.cells #[.int .i64 t.f4, .string pv.f1] 41)) := below_alloc (Below.refl _ _) _
                          obtain ⟨w2, hw2⟩ : ∃ w2, w2 = w'.alloc (.cells #[.int .i64 t.f4, .string pv.f1] 41) := ⟨_, rfl⟩
                          rw [← hw2]
                          rw [← hw2] at hn_ hbw_
                          refine hK.out _ _ ⟨w'.heap.size, A1, c1, (.slice (some ⟨w'.heap.size, 0, none⟩) 1 1), m15_, (by rw [ha.out]; exact putSel_upk 14 hb_ rfl rfl rfl), fun _ => (TW.out.up hbw_), fun _ _ => hn_, fun h0_ _ => absurd ((hoff 15 (by kernel_rfl)).symm.trans h0_) (by decide), fun h0_ => absurd ((hoff 18 (by kernel_rfl)).symm.trans h0_) (by decide), fun _ => rfl, fun h0_ => absurd ((hoff 15 (by kernel_rfl)).symm.trans h0_) (by decide)⟩
                        refine steps_cons ?_ ?_
                        · rintro b a w' ⟨gb, A1, c1, m14_, m15_, ha, Q_TW, Q_GB, Q_PW, Q_TZ, Q_X14_, Q_X15_⟩ hb_ hon hoff
                          refine ⟨_, rfl, fun K hK => ?_⟩
                          have e77 : a.tmps[77]? = some (.slice As ns cs) := by rw [ha]; exact putSel_on (e := (4, 77, .slice As ns cs)) 4 rfl rfl (hon 4 (by kernel_rfl)) rfl
                          have e87 : a.tmps[87]? = some (m14_) := by rw [ha]; exact putSel_on (e := (14, 87, m14_)) 14 rfl rfl (hon 14 (by kernel_rfl)) rfl
                          rw [Q_X14_ (hon 14 (by kernel_rfl))] at e87
                          replace ha := Aside0.mk ha
                          have TW := Aside0.mk (Q_TW hb_)
                          have GB := Aside0.mk (Q_GB (hon 14 (by kernel_rfl)) hb_)
                          refine app_ (by rfl) rfl (.tmp 77) (.tmp 87) 33 rfl pm.w0.heap.size 41 (.agg #[.int .i64 0, .string ⟨#[]⟩]) 2 24 Try.underlying33 info41 rfl (by decide) (.slice As ns cs) ns (st.flatMap cF) (eval_of e77) (by have h_ := TW.out.rS; rw [← HNS.out, hm.es] at h_; exact h_) ⟨gb, 0, none⟩ 1 1 (cF ((t.f4, pv.f1))) (eval_of e87) rfl (World.news_of_block GB.out) (cF_one _) (by have h_ := HLS.out; rw [← HNS.out] at h_; simp only [maxLen]; omega) (by have h_ := HLS.out; rw [← HNS.out] at h_; omega) TW.out.below.size ?_
                          intro v2_ w2 ho_ hg_ hat_
                          obtain ⟨A1_, c1_, rfl⟩ := own_slice ho_
                          refine hK.out _ _ ⟨gb, A1_, c1_, m14_, (.slice A1_ (ns + 1) c1_), (by rw [ha.out]; exact putSel_upk 15 hb_ rfl rfl rfl), fun h0_ => absurd ((up_self b 15).symm.trans h0_) (by decide), fun _ h1_ => absurd ((up_self b 15).symm.trans h1_) (by decide), fun _ _ => ⟨w', TW.out, by rw [← HNS.out, hm.es]; exact ho_, by rw [← HNS.out]; exact hg_, by rw [← HNS.out]; exact hat_⟩, fun h0_ => absurd ((hoff 18 (by kernel_rfl)).symm.trans h0_) (by decide), Q_X14_, fun _ => rfl⟩
                        refine steps_cons ?_ ?_
                        · rintro b a w' ⟨gb, A1, c1, m14_, m15_, ha, Q_TW, Q_GB, Q_PW, Q_TZ, Q_X14_, Q_X15_⟩ hb_ hon hoff
                          refine ⟨_, rfl, fun K hK => ?_⟩
                          have e73 : a.tmps[73]? = some (.pointer (some ⟨g, 0, none⟩)) := by rw [ha]; exact putSel_on (e := (0, 73, .pointer (some ⟨g, 0, none⟩))) 0 rfl rfl (hon 0 (by kernel_rfl)) rfl
                          replace ha := Aside0.mk ha
                          have PW := Aside0.mk (Q_PW (hon 15 (by kernel_rfl)) (hoff 18 (by kernel_rfl)))
                          refine value_ (w1 := w') (v := .pointer (some ⟨g, 0, none⟩)) (by rfl) rfl ?_ ?_
                          · go_simp
                            (try simp only [i64_w])
                            try rfl
                          refine hK.out _ _ ⟨gb, A1, c1, m14_, m15_, (by rw [ha.out]; exact putSel_upk 16 hb_ rfl rfl rfl), fun h0_ => absurd ((hon 15 (by kernel_rfl)).symm.trans h0_) (by decide), fun _ h1_ => absurd ((hon 15 (by kernel_rfl)).symm.trans h1_) (by decide), Q_PW, fun h0_ => absurd ((hoff 18 (by kernel_rfl)).symm.trans h0_) (by decide), Q_X14_, Q_X15_⟩
                        refine steps_cons ?_ ?_
                        · rintro b a w' ⟨gb, A1, c1, m14_, m15_, ha, Q_TW, Q_GB, Q_PW, Q_TZ, Q_X14_, Q_X15_⟩ hb_ hon hoff
                          refine ⟨_, rfl, fun K hK => ?_⟩
                          have e89 : a.tmps[89]? = some (.pointer (some ⟨g, 0, none⟩)) := by rw [ha]; exact putSel_on (e := (16, 89, .pointer (some ⟨g, 0, none⟩))) 16 rfl rfl (hon 16 (by kernel_rfl)) rfl
                          replace ha := Aside0.mk ha
                          have PW := Aside0.mk (Q_PW (hon 15 (by kernel_rfl)) (hoff 18 (by kernel_rfl)))
                          refine value_ (w1 := w') (v := .pointer (some ⟨g, 0, none⟩)) (by rfl) rfl ?_ ?_
                          · go_simp
                            (try simp only [i64_w])
                            try rfl
                          refine hK.out _ _ ⟨gb, A1, c1, m14_, m15_, (by rw [ha.out]; exact putSel_upk 17 hb_ rfl rfl rfl), fun h0_ => absurd ((hon 15 (by kernel_rfl)).symm.trans h0_) (by decide), fun _ h1_ => absurd ((hon 15 (by kernel_rfl)).symm.trans h1_) (by decide), Q_PW, fun h0_ => absurd ((hoff 18 (by kernel_rfl)).symm.trans h0_) (by decide), Q_X14_, Q_X15_⟩
                        refine steps_cons ?_ ?_
                        · rintro b a w' ⟨gb, A1, c1, m14_, m15_, ha, Q_TW, Q_GB, Q_PW, Q_TZ, Q_X14_, Q_X15_⟩ hb_ hon hoff
                          refine ⟨_, rfl, fun K hK => ?_⟩
                          have e90 : a.tmps[90]? = some (.pointer (some ⟨g, 0, none⟩)) := by rw [ha]; exact putSel_on (e := (17, 90, .pointer (some ⟨g, 0, none⟩))) 17 rfl rfl (hon 17 (by kernel_rfl)) rfl
                          have e88 : a.tmps[88]? = some (m15_) := by rw [ha]; exact putSel_on (e := (15, 88, m15_)) 15 rfl rfl (hon 15 (by kernel_rfl)) rfl
                          rw [Q_X15_ (hon 15 (by kernel_rfl))] at e88
                          replace ha := Aside0.mk ha
                          have PW := Aside0.mk (Q_PW (hon 15 (by kernel_rfl)) hb_)
                          have hf_ : w'.frozen? ⟨g, 0, none⟩ = false := by have h_ := PW.out.home.free; rw [hm.hs] at h_; exact h_
                          have hc_ : w'.cell? ⟨g, 0, none⟩ = some (.slice As st.length cs) := by have h_ := PW.out.home.cell; rw [hm.hs] at h_; exact h_
                          refine skip_ (w1 := w'.setCell ⟨g, 0, none⟩ (.slice A1 (ns + 1) c1)) (by rfl) rfl ?_ ?_
                          · go_simp
                          refine hK.out _ _ ⟨gb, A1, c1, m14_, m15_, (by rw [ha.out]; exact putSel_none (v := undef) rfl), fun h0_ => absurd ((hon 15 (by kernel_rfl)).symm.trans h0_) (by decide), fun _ h1_ => absurd ((hon 15 (by kernel_rfl)).symm.trans h1_) (by decide), fun _ h1_ => absurd ((up_self b 18).symm.trans h1_) (by decide), fun _ => (by have h_ := PW.out.store; rw [hm.hs] at h_; exact h_), Q_X14_, Q_X15_⟩
                        exact steps_nil
                      rintro b a w8 hall ⟨gb, A1, c1, m14_, m15_, ha, Q_TW, Q_GB, Q_PW, Q_TZ, Q_X14_, Q_X15_⟩
                      have hb0_ := hall 0 (by kernel_rfl)
                      have hb1_ := hall 1 (by kernel_rfl)
                      have hb2_ := hall 2 (by kernel_rfl)
                      have hb3_ := hall 3 (by kernel_rfl)
                      have hb4_ := hall 4 (by kernel_rfl)
                      have hb5_ := hall 5 (by kernel_rfl)
                      have hb6_ := hall 6 (by kernel_rfl)
                      have hb7_ := hall 7 (by kernel_rfl)
                      have hb8_ := hall 8 (by kernel_rfl)
                      have hb9_ := hall 9 (by kernel_rfl)
                      have hb10_ := hall 10 (by kernel_rfl)
                      have hb11_ := hall 11 (by kernel_rfl)
                      have hb12_ := hall 12 (by kernel_rfl)
                      have hb13_ := hall 13 (by kernel_rfl)
                      have hb14_ := hall 14 (by kernel_rfl)
                      have hb15_ := hall 15 (by kernel_rfl)
                      have hb16_ := hall 16 (by kernel_rfl)
                      have hb17_ := hall 17 (by kernel_rfl)
                      have hb18_ := hall 18 (by kernel_rfl)
                      subst ha
                      obtain rfl := Q_X14_ hb14_
                      obtain rfl := Q_X15_ hb15_
                      simp only [putSel, hb0_, hb1_, hb2_, hb3_, hb4_, hb5_, hb6_, hb7_, hb8_, hb9_, hb10_, hb11_, hb12_, hb13_, hb14_, hb15_, hb16_, hb17_, hb18_, if_true, Act.put, List.setIfInBounds_toArray, List.set_cons_zero, List.set_cons_succ]
                      clear Q_TW
                      clear Q_GB
                      clear Q_PW
                      have TZ := Aside0.mk (Q_TZ hb18_)
                      clear Q_TZ
                      clear hall hb0_ hb1_ hb2_ hb3_ hb4_ hb5_ hb6_ hb7_ hb8_ hb9_ hb10_ hb11_ hb12_ hb13_ hb14_ hb15_ hb16_ hb17_ hb18_
                      have TZ' := Go.Lib.hid TZ.out
                      clear TZ HT_ HW_ hHeld H0
                      go_wp2_with fail
                      go_meet
                      exact ⟨by rw [hf.out], by
                        rw [hf.out]
                        refine Go.Lib.hid ?_
                        have h := TZ'.out
                        rw [HPM.out, HST.out, HOU.out] at h
                        show TwoE _ ((t.f4, pv.f1) :: x.1).reverse _ _
                        rw [List.reverse_cons]; exact h⟩
                    · have hd' : decide (en < t.f4) = false := decide_eq_false hd
                      have hd'' : decide (t.f4 > en) = false := decide_eq_false hd
                      have hf := Go.Lib.hid (show y = ((x.1, x.2 ++ [vt 6 t] ++ [vt 7 t]), fi) by rw [HO.out]; simp [hd])
                      clear hk9 hd
                      go_region_held3 (fun w' => w'.cell? ⟨wr.heap.size, 0, none⟩ = some (.int .i64 t.f0) ∧ w'.cell? ⟨wr.heap.size, 4, none⟩ = some (.int .i64 t.f4) ∧ Hid (In p wr t x.1.reverse x.2 w')) (first | exact ⟨hI5.out.box.c0, hI5.out.box.c4, hI5⟩ | exact ⟨(hI3.out.up (below_drew1 (Below.refl _ _))).box.c0, (hI3.out.up (below_drew1 (Below.refl _ _))).box.c4, Go.Lib.hid (hI3.out.up (below_drew1 (Below.refl _ _)))⟩) (first
                        | (go_at_call 11; refine (HEN.out _ (‹_ ∧ _ ∧ Hid (In p wr t x.1.reverse x.2 _)›).2.2.out).mono ?_; rintro e wn ⟨rfl, hbn⟩; have hI5 := Go.Lib.hid ((‹_ ∧ _ ∧ Hid (In p wr t x.1.reverse x.2 _)›).2.2.out.up hbn); clear hbn))
                      rename_i hHeldX
                      clear hHeldX HEN
                      have ⟨b0, b1, b2, b3, b4⟩ := hI5.out.box
                      have HPU := Go.Lib.hid (putE HM.out.more 6 t hI5.out (by have h1 := hZ.out; have h2 := HLT.out; have h3 := HG.out.le; unfold sz at h1; omega))
                      clear hI3
                      go_wp2_with fail
                      refine HPU.out.mono ?_
                      rintro e w6 ⟨rfl, hI6⟩
                      have hI6 : Hid (In p wr t x.1.reverse (x.2 ++ [vt 6 t]) w6) := Go.Lib.hid hI6
                      clear HPU hI5 b0 b1 b2 b3 b4
                      have ⟨b0, b1, b2, b3, b4⟩ := hI6.out.box
                      have HPU := Go.Lib.hid (putE HM.out.more 7 t hI6.out (by have h1 := hZ.out; have h2 := HLT.out; have h3 := HG.out.le; unfold sz at h1; simp; omega))
                      go_wp2_with fail
                      refine HPU.out.mono ?_
                      rintro e w7 ⟨rfl, hI7⟩
                      have hI7 : Hid (In p wr t x.1.reverse (x.2 ++ [vt 6 t] ++ [vt 7 t]) w7) := Go.Lib.hid hI7
                      clear HPU hI6 b0 b1 b2 b3 b4
                      go_wp2_with fail
                      go_meet
                      exact ⟨by rw [hf.out], by rw [hf.out]; exact hI7⟩
            case rest =>
              obtain ⟨rfl, hI4⟩ := hcut
              clear HO HIJ
              have ⟨b0, b1, b2, b3, b4⟩ := hI4.out.box
              by_cases hk9 : t.f0 = 9
              · have hk9' : (t.f0 == 9) = true := beq_iff_eq.mpr hk9
                have HF := Go.Lib.hid (show goM l l.length 0 ([], []) = y.1 by rw [← hS.out, HS.out, if_pos hk9])
                clear hk9
                go_wp2_with fail
                go_meet
                exact ⟨y.1, Go.Lib.hid (hI4.out.done hT.out), HF, Go.Lib.hid (by have h1 := HSZ.out; have h2 := hZ.out; have h3 := HLT.out; have h4 := HG.out.le; omega)⟩
              · have hk9' : (t.f0 == 9) = false := beq_eq_false_iff_ne.mpr hk9
                have HF := Go.Lib.hid (show goM l (gk - 1) (i + 1) (restM y.2 t y.1) = goM l l.length 0 ([], []) by rw [← hS.out, HS.out, if_neg hk9])
                clear hk9
                obtain ⟨z, hz⟩ : ∃ z, z = (if y.2 = true then lineX t (lineR t y.1.1 y.1.2) else y.1) := ⟨_, rfl⟩
                have HRM := Go.Lib.hid (show restM y.2 t y.1 = (if isB t 5 [40] || isB t 5 [123] then (0, ⟨#[]⟩) :: (beforeR t z).1 else (beforeR t z).1, (beforeR t z).2 ++ [t]) by rw [hz]; rfl)
                have HBD := Go.Lib.hid (show sz y.1 ≤ 45000 from by have h1 := HSZ.out; have h2 := hZ.out; have h3 := HLT.out; have h4 := HG.out.le; omega)
                have HZZ := Go.Lib.hid (show sz z ≤ sz y.1 + 1 from by
                  rw [hz]
                  split
                  · have h1 := sz_lineX t (lineR t y.1.1 y.1.2)
                    have h2 := lineR_len t y.1.1 y.1.2
                    unfold sz at *; omega
                  · omega)
                have HZE := Go.Lib.hid hz
                clear hz
                go_upto_if 94 with fail
                clear b0 b1 b2 b3 b4
                go_cut [8] from 94 to 97 (fun s8 wx => Hid (In p wr t z.1.reverse z.2 wx))
                case first =>
                  cases hfb : y.2 with
                  | true =>
                    have hz := Go.Lib.hid (show z = lineX t (lineR t y.1.1 y.1.2) by rw [HZE.out, if_pos hfb])
                    have ⟨b0, b1, b2, b3, b4⟩ := hI4.out.box
                    have HLN := Go.Lib.hid (line_calls HM.out.more t hcol.out hI4.out (by have h1 := HBD.out; unfold sz at h1; rw [List.length_reverse]; omega))
                    rw [List.reverse_reverse] at HLN
                    clear hfb HZE
                    go_wp2_with fail
                    refine HLN.out.mono ?_
                    rintro e w5 ⟨rfl, hI5⟩
                    have hI5 : Hid (In p wr t z.1.reverse z.2 w5) := Go.Lib.hid (by rw [hz.out]; exact hI5)
                    clear HLN b0 b1 b2 b3 b4
                    go_wp2_with fail
                    go_meet
                    exact hI5
                  | false =>
                    have hz := Go.Lib.hid (show z = y.1 by rw [HZE.out, if_neg (by rw [hfb]; decide)])
                    clear hfb HZE
                    go_wp2_with fail
                    go_meet
                    exact Go.Lib.hid (by rw [hz.out]; exact hI4.out)
                case rest =>
                  have hI5 := hcut
                  clear hcut hI4 HZE
                  obtain ⟨z2, hz2⟩ : ∃ z2, z2 = beforeR t z := ⟨_, rfl⟩
                  have HSB := Go.Lib.hid (show sz z2 ≤ sz z by rw [hz2]; exact sz_before t z)
                  have HBF := Go.Lib.hid (show Calls Try.prog 14 #[.pointer (some ⟨g, 0, none⟩), tV t] wc fun e w' => e = .returned (.tuple #[]) ∧ In p wr t z2.1.reverse z2.2 w' from by
                    have h := before_calls HM.out.more t hI5.out (by have h1 := HBD.out; have h2 := HZZ.out; unfold sz at *; rw [List.length_reverse]; omega)
                    rw [List.reverse_reverse] at h
                    rw [hz2]; exact h)
                  rw [← hz2] at HRM
                  have ⟨b0, b1, b2, b3, b4⟩ := hI5.out.box
                  clear hz2
                  go_wp2_with fail
                  refine HBF.out.mono ?_
                  rintro e w6 ⟨rfl, hI6⟩
                  have hI6 := Go.Lib.hid hI6
                  clear HBF hI5 b0 b1 b2 b3 b4
                  go_wp2_with fail
                  obtain ⟨st, hste⟩ : ∃ st, st = z2.1.reverse := ⟨_, rfl⟩
                  obtain ⟨out, houte⟩ : ∃ out, out = z2.2 := ⟨_, rfl⟩
                  obtain ⟨pm, hpm⟩ : ∃ pm, pm = p.more wr.heap.size (wr.alloc (tO t)) := ⟨_, rfl⟩
                  have HPM := Go.Lib.hid hpm
                  have HST := Go.Lib.hid hste
                  have HOU := Go.Lib.hid houte
                  have hm : Mkr pm g := by rw [hpm]; exact HM.out.more
                  have HL := Go.Lib.hid (show out.length < 1000000 by rw [houte]; have h1 := HBD.out; have h2 := HZZ.out; have h3 := HSB.out; unfold sz at *; omega)
                  obtain ⟨As, cs, Ao, co, hT17⟩ := hI6.out
                  rw [← hste, ← houte, ← hpm] at hT17
                  have HBX := Go.Lib.hid (show ∀ W', Two pm As cs st Ao co out W' → W'.heap[wr.heap.size]? = some (tO t) from fun W' h => by
                    rw [hpm] at h; exact h.box (blk_new wr (tO t)))
                  obtain ⟨n, hn⟩ : ∃ n, n = out.length := ⟨_, rfl⟩
                  have HN := Go.Lib.hid hn
                  have H0 := Go.Lib.hid hT17.drew
                  clear hste houte hpm hT17 hn
                  refine start_ (n := 11) (S := fun w' => True) (ds := []) #[false, false, false, false, false, false, false, false, false, false, false] (by kernel_rfl) rfl rfl trivial (fun hHeld => ?_)
                  refine with_tabW mark.tab23 mark.bits23 (fun HT_ HW_ => ?_)
                  refine inv_at [0, 1, 2, 3, 4, 5, 6, 7, 8, 9, 10] (fun a0_ b a w' => ∃ (gb : Nat) (A1 : Option Addr) (c1 : Nat) (m6_ : Value) (m7_ : Value), a = putSel a0_ b [(0, 101, .pointer (some ⟨g, 0, none⟩)), (1, 102, .pointer (some ⟨g, 0, none⟩)), (2, 103, .pointer (some ⟨g, 0, none⟩)), (3, 104, .pointer (some ⟨g, 1, none⟩)), (4, 105, .slice Ao n co), (5, 106, .agg #[.int .i64 t.f0, .string t.f1, .int .i64 t.f2, .int .i64 t.f3, .int .i64 t.f4]), (6, 107, m6_), (7, 108, m7_), (8, 109, .pointer (some ⟨g, 0, none⟩)), (9, 110, .pointer (some ⟨g, 1, none⟩))] ∧ (b 7 = false → Two pm As cs st Ao co out w') ∧ (b 6 = true → b 7 = false → w'.heap[gb]? = some (.cells #[.int .i64 t.f0, .string t.f1, .int .i64 t.f2, .int .i64 t.f3, .int .i64 t.f4] 27)) ∧ (b 7 = true → b 10 = false → PendO pm As cs st Ao co out (t) (.slice A1 (n + 1) c1) w') ∧ (b 10 = true → TwoE pm st (out ++ [t]) w') ∧ (b 6 = true → (m6_ : Value) = .slice (some ⟨gb, 0, none⟩) 1 1) ∧ (b 7 = true → (m7_ : Value) = .slice A1 (n + 1) c1)) HT_.out HW_.out (by kernel_rfl) (by kernel_rfl) ?_ ?_ ?_
                  · exact ⟨0, none, 0, .bool false, .bool false, by simp only [putSel, Bool.false_eq_true, if_false], fun _ => H0.out, fun h_ => absurd h_ (by decide), fun h_ => absurd h_ (by decide), fun h_ => absurd h_ (by decide), fun h_ => absurd h_ (by decide), fun h_ => absurd h_ (by decide)⟩
                  · skip
                    refine steps_cons ?_ ?_
                    · rintro b a w' ⟨gb, A1, c1, m6_, m7_, ha, Q_TW, Q_GB, Q_PW, Q_TZ, Q_X6_, Q_X7_⟩ hb_ hon hoff
                      refine ⟨_, rfl, fun K hK => ?_⟩
                      have e5 : a.tmps[5]? = some (.pointer (some ⟨g, 0, none⟩)) := by rw [ha]; exact (putSel_off rfl).trans rfl
                      replace ha := Aside0.mk ha
                      refine value_ (w1 := w') (v := .pointer (some ⟨g, 0, none⟩)) (by rfl) rfl ?_ ?_
                      · go_simp
                        (try simp only [i64_w])
                        try rfl
                      refine hK.out _ _ ⟨gb, A1, c1, m6_, m7_, (by rw [ha.out]; exact putSel_upk 0 hb_ rfl rfl rfl), Q_TW, Q_GB, Q_PW, fun h0_ => absurd ((hoff 10 (by kernel_rfl)).symm.trans h0_) (by decide), Q_X6_, Q_X7_⟩
                    refine steps_cons ?_ ?_
                    · rintro b a w' ⟨gb, A1, c1, m6_, m7_, ha, Q_TW, Q_GB, Q_PW, Q_TZ, Q_X6_, Q_X7_⟩ hb_ hon hoff
                      refine ⟨_, rfl, fun K hK => ?_⟩
                      have e5 : a.tmps[5]? = some (.pointer (some ⟨g, 0, none⟩)) := by rw [ha]; exact (putSel_off rfl).trans rfl
                      replace ha := Aside0.mk ha
                      have TW := Aside0.mk (Q_TW (hoff 7 (by kernel_rfl)))
                      refine value_ (w1 := w') (v := .pointer (some ⟨g, 0, none⟩)) (by rfl) rfl ?_ ?_
                      · go_simp
                        (try simp only [i64_w])
                        try rfl
                      refine hK.out _ _ ⟨gb, A1, c1, m6_, m7_, (by rw [ha.out]; exact putSel_upk 1 hb_ rfl rfl rfl), Q_TW, Q_GB, fun h0_ _ => absurd ((hoff 7 (by kernel_rfl)).symm.trans h0_) (by decide), fun h0_ => absurd ((hoff 10 (by kernel_rfl)).symm.trans h0_) (by decide), Q_X6_, fun h0_ => absurd ((hoff 7 (by kernel_rfl)).symm.trans h0_) (by decide)⟩
                    refine steps_cons ?_ ?_
                    · rintro b a w' ⟨gb, A1, c1, m6_, m7_, ha, Q_TW, Q_GB, Q_PW, Q_TZ, Q_X6_, Q_X7_⟩ hb_ hon hoff
                      refine ⟨_, rfl, fun K hK => ?_⟩
                      have e102 : a.tmps[102]? = some (.pointer (some ⟨g, 0, none⟩)) := by rw [ha]; exact putSel_on (e := (1, 102, .pointer (some ⟨g, 0, none⟩))) 1 rfl rfl (hon 1 (by kernel_rfl)) rfl
                      replace ha := Aside0.mk ha
                      have TW := Aside0.mk (Q_TW (hoff 7 (by kernel_rfl)))
                      refine value_ (w1 := w') (v := .pointer (some ⟨g, 0, none⟩)) (by rfl) rfl ?_ ?_
                      · go_simp
                        (try simp only [i64_w])
                        try rfl
                      refine hK.out _ _ ⟨gb, A1, c1, m6_, m7_, (by rw [ha.out]; exact putSel_upk 2 hb_ rfl rfl rfl), Q_TW, Q_GB, fun h0_ _ => absurd ((hoff 7 (by kernel_rfl)).symm.trans h0_) (by decide), fun h0_ => absurd ((hoff 10 (by kernel_rfl)).symm.trans h0_) (by decide), Q_X6_, fun h0_ => absurd ((hoff 7 (by kernel_rfl)).symm.trans h0_) (by decide)⟩
                    refine steps_cons ?_ ?_
                    · rintro b a w' ⟨gb, A1, c1, m6_, m7_, ha, Q_TW, Q_GB, Q_PW, Q_TZ, Q_X6_, Q_X7_⟩ hb_ hon hoff
                      refine ⟨_, rfl, fun K hK => ?_⟩
                      have e103 : a.tmps[103]? = some (.pointer (some ⟨g, 0, none⟩)) := by rw [ha]; exact putSel_on (e := (2, 103, .pointer (some ⟨g, 0, none⟩))) 2 rfl rfl (hon 2 (by kernel_rfl)) rfl
                      replace ha := Aside0.mk ha
                      have TW := Aside0.mk (Q_TW (hoff 7 (by kernel_rfl)))
                      refine value_ (w1 := w') (v := .pointer (some ⟨g, 1, none⟩)) (by rfl) rfl ?_ ?_
                      · go_simp
                        (try simp only [i64_w])
                        try rfl
                      refine hK.out _ _ ⟨gb, A1, c1, m6_, m7_, (by rw [ha.out]; exact putSel_upk 3 hb_ rfl rfl rfl), Q_TW, Q_GB, fun h0_ _ => absurd ((hoff 7 (by kernel_rfl)).symm.trans h0_) (by decide), fun h0_ => absurd ((hoff 10 (by kernel_rfl)).symm.trans h0_) (by decide), Q_X6_, fun h0_ => absurd ((hoff 7 (by kernel_rfl)).symm.trans h0_) (by decide)⟩
                    refine steps_cons ?_ ?_
                    · rintro b a w' ⟨gb, A1, c1, m6_, m7_, ha, Q_TW, Q_GB, Q_PW, Q_TZ, Q_X6_, Q_X7_⟩ hb_ hon hoff
                      refine ⟨_, rfl, fun K hK => ?_⟩
                      have e104 : a.tmps[104]? = some (.pointer (some ⟨g, 1, none⟩)) := by rw [ha]; exact putSel_on (e := (3, 104, .pointer (some ⟨g, 1, none⟩))) 3 rfl rfl (hon 3 (by kernel_rfl)) rfl
                      replace ha := Aside0.mk ha
                      have TW := Aside0.mk (Q_TW (hoff 7 (by kernel_rfl)))
                      have hc0_ : w'.cell? ⟨g, 1, none⟩ = some (.slice Ao n co) := (by have h_ := TW.out.cO; rw [hm.ho, ← HN.out] at h_; exact h_)
                      refine value_ (w1 := w') (v := .slice Ao n co) (by rfl) rfl ?_ ?_
                      · go_simp
                        (try simp only [i64_w])
                        try rfl
                      refine hK.out _ _ ⟨gb, A1, c1, m6_, m7_, (by rw [ha.out]; exact putSel_upk 4 hb_ rfl rfl rfl), Q_TW, Q_GB, fun h0_ _ => absurd ((hoff 7 (by kernel_rfl)).symm.trans h0_) (by decide), fun h0_ => absurd ((hoff 10 (by kernel_rfl)).symm.trans h0_) (by decide), Q_X6_, fun h0_ => absurd ((hoff 7 (by kernel_rfl)).symm.trans h0_) (by decide)⟩
                    refine steps_cons ?_ ?_
                    · rintro b a w' ⟨gb, A1, c1, m6_, m7_, ha, Q_TW, Q_GB, Q_PW, Q_TZ, Q_X6_, Q_X7_⟩ hb_ hon hoff
                      refine ⟨_, rfl, fun K hK => ?_⟩
                      have e7 : a.tmps[7]? = some (.pointer (some ⟨wr.heap.size, 0, none⟩)) := by rw [ha]; exact (putSel_off rfl).trans rfl
                      replace ha := Aside0.mk ha
                      have TW := Aside0.mk (Q_TW (hoff 7 (by kernel_rfl)))
                      have hc0_ : w'.cell? ⟨wr.heap.size, 0, none⟩ = some (.int .i64 t.f0) := (blk_cell (HBX.out _ TW.out) 0).trans rfl
                      have hc1_ : w'.cell? ⟨wr.heap.size, 1, none⟩ = some (.string t.f1) := (blk_cell (HBX.out _ TW.out) 1).trans rfl
                      have hc2_ : w'.cell? ⟨wr.heap.size, 2, none⟩ = some (.int .i64 t.f2) := (blk_cell (HBX.out _ TW.out) 2).trans rfl
                      have hc3_ : w'.cell? ⟨wr.heap.size, 3, none⟩ = some (.int .i64 t.f3) := (blk_cell (HBX.out _ TW.out) 3).trans rfl
                      have hc4_ : w'.cell? ⟨wr.heap.size, 4, none⟩ = some (.int .i64 t.f4) := (blk_cell (HBX.out _ TW.out) 4).trans rfl
                      refine value_ (w1 := w') (v := .agg #[.int .i64 t.f0, .string t.f1, .int .i64 t.f2, .int .i64 t.f3, .int .i64 t.f4]) (by rfl) rfl ?_ ?_
                      · go_simp
                        (try simp only [i64_w])
                        try rfl
                      refine hK.out _ _ ⟨gb, A1, c1, m6_, m7_, (by rw [ha.out]; exact putSel_upk 5 hb_ rfl rfl rfl), Q_TW, fun h0_ _ => absurd ((hoff 6 (by kernel_rfl)).symm.trans h0_) (by decide), fun h0_ _ => absurd ((hoff 7 (by kernel_rfl)).symm.trans h0_) (by decide), fun h0_ => absurd ((hoff 10 (by kernel_rfl)).symm.trans h0_) (by decide), fun h0_ => absurd ((hoff 6 (by kernel_rfl)).symm.trans h0_) (by decide), fun h0_ => absurd ((hoff 7 (by kernel_rfl)).symm.trans h0_) (by decide)⟩
                    refine steps_cons ?_ ?_
                    · rintro b a w' ⟨gb, A1, c1, m6_, m7_, ha, Q_TW, Q_GB, Q_PW, Q_TZ, Q_X6_, Q_X7_⟩ hb_ hon hoff
                      refine ⟨_, rfl, fun K hK => ?_⟩
                      have e106 : a.tmps[106]? = some (.agg #[.int .i64 t.f0, .string t.f1, .int .i64 t.f2, .int .i64 t.f3, .int .i64 t.f4]) := by rw [ha]; exact putSel_on (e := (5, 106, .agg #[.int .i64 t.f0, .string t.f1, .int .i64 t.f2, .int .i64 t.f3, .int .i64 t.f4])) 5 rfl rfl (hon 5 (by kernel_rfl)) rfl
                      replace ha := Aside0.mk ha
                      have TW := Aside0.mk (Q_TW (hoff 7 (by kernel_rfl)))
                      refine value_ (w1 := w'.alloc (.cells #[.int .i64 t.f0, .string t.f1, .int .i64 t.f2, .int .i64 t.f3, .int .i64 t.f4] 27)) (v := .slice (some ⟨w'.heap.size, 0, none⟩) 1 1) (by rfl) rfl ?_ ?_
                      · go_simp
                      have hn_ : (w'.alloc (.cells #[.int .i64 t.f0, .string t.f1, .int .i64 t.f2, .int .i64 t.f3, .int .i64 t.f4] 27)).heap[w'.heap.size]? = some (.cells #[.int .i64 t.f0, .string t.f1, .int .i64 t.f2, .int .i64 t.f3, .int .i64 t.f4] 27) := blk_new _ _
                      have hbw_ : Below w'.heap.size w' (w'.alloc (.cells #[.int .i64 t.f0, .string t.f1, .int .i64 t.f2, .int .i64 t.f3, .int .i64 t.f4] 27)) := below_alloc (Below.refl _ _) _
                      obtain ⟨w2, hw2⟩ : ∃ w2, w2 = w'.alloc (.cells #[.int .i64 t.f0, .string t.f1, .int .i64 t.f2, .int .i64 t.f3, .int .i64 t.f4] 27) := ⟨_, rfl⟩
                      rw [← hw2]
                      rw [← hw2] at hn_ hbw_
                      refine hK.out _ _ ⟨w'.heap.size, A1, c1, (.slice (some ⟨w'.heap.size, 0, none⟩) 1 1), m7_, (by rw [ha.out]; exact putSel_upk 6 hb_ rfl rfl rfl), fun _ => (TW.out.up hbw_), fun _ _ => hn_, fun h0_ _ => absurd ((hoff 7 (by kernel_rfl)).symm.trans h0_) (by decide), fun h0_ => absurd ((hoff 10 (by kernel_rfl)).symm.trans h0_) (by decide), fun _ => rfl, fun h0_ => absurd ((hoff 7 (by kernel_rfl)).symm.trans h0_) (by decide)⟩
                    refine steps_cons ?_ ?_
                    · rintro b a w' ⟨gb, A1, c1, m6_, m7_, ha, Q_TW, Q_GB, Q_PW, Q_TZ, Q_X6_, Q_X7_⟩ hb_ hon hoff
                      refine ⟨_, rfl, fun K hK => ?_⟩
                      have e105 : a.tmps[105]? = some (.slice Ao n co) := by rw [ha]; exact putSel_on (e := (4, 105, .slice Ao n co)) 4 rfl rfl (hon 4 (by kernel_rfl)) rfl
                      have e107 : a.tmps[107]? = some (m6_) := by rw [ha]; exact putSel_on (e := (6, 107, m6_)) 6 rfl rfl (hon 6 (by kernel_rfl)) rfl
                      rw [Q_X6_ (hon 6 (by kernel_rfl))] at e107
                      replace ha := Aside0.mk ha
                      have TW := Aside0.mk (Q_TW hb_)
                      have GB := Aside0.mk (Q_GB (hon 6 (by kernel_rfl)) hb_)
                      refine app_ (by rfl) rfl (.tmp 105) (.tmp 107) 22 rfl pm.w0.heap.size 27 (.agg #[.int .i64 0, .string ⟨#[]⟩, .int .i64 0, .int .i64 0, .int .i64 0]) 5 48 Try.underlying22 info27 rfl (by decide) (.slice Ao n co) n (out.flatMap cT) (eval_of e105) (by have h_ := TW.out.rO; rw [← HN.out] at h_; exact h_) ⟨gb, 0, none⟩ 1 1 (cT (t)) (eval_of e107) rfl (World.news_of_block GB.out) (cT_one _) (by have h_ := HL.out; rw [← HN.out] at h_; simp only [maxLen]; omega) (by have h_ := HL.out; rw [← HN.out] at h_; omega) TW.out.below.size ?_
                      intro v2_ w2 ho_ hg_ hat_
                      obtain ⟨A1_, c1_, rfl⟩ := own_slice ho_
                      refine hK.out _ _ ⟨gb, A1_, c1_, m6_, (.slice A1_ (n + 1) c1_), (by rw [ha.out]; exact putSel_upk 7 hb_ rfl rfl rfl), fun h0_ => absurd ((up_self b 7).symm.trans h0_) (by decide), fun _ h1_ => absurd ((up_self b 7).symm.trans h1_) (by decide), fun _ _ => ⟨w', TW.out, by rw [← HN.out]; exact ho_, by rw [← HN.out]; exact hg_, by rw [← HN.out]; exact hat_⟩, fun h0_ => absurd ((hoff 10 (by kernel_rfl)).symm.trans h0_) (by decide), Q_X6_, fun _ => rfl⟩
                    refine steps_cons ?_ ?_
                    · rintro b a w' ⟨gb, A1, c1, m6_, m7_, ha, Q_TW, Q_GB, Q_PW, Q_TZ, Q_X6_, Q_X7_⟩ hb_ hon hoff
                      refine ⟨_, rfl, fun K hK => ?_⟩
                      have e101 : a.tmps[101]? = some (.pointer (some ⟨g, 0, none⟩)) := by rw [ha]; exact putSel_on (e := (0, 101, .pointer (some ⟨g, 0, none⟩))) 0 rfl rfl (hon 0 (by kernel_rfl)) rfl
                      replace ha := Aside0.mk ha
                      have PW := Aside0.mk (Q_PW (hon 7 (by kernel_rfl)) (hoff 10 (by kernel_rfl)))
                      refine value_ (w1 := w') (v := .pointer (some ⟨g, 0, none⟩)) (by rfl) rfl ?_ ?_
                      · go_simp
                        (try simp only [i64_w])
                        try rfl
                      refine hK.out _ _ ⟨gb, A1, c1, m6_, m7_, (by rw [ha.out]; exact putSel_upk 8 hb_ rfl rfl rfl), fun h0_ => absurd ((hon 7 (by kernel_rfl)).symm.trans h0_) (by decide), fun _ h1_ => absurd ((hon 7 (by kernel_rfl)).symm.trans h1_) (by decide), Q_PW, fun h0_ => absurd ((hoff 10 (by kernel_rfl)).symm.trans h0_) (by decide), Q_X6_, Q_X7_⟩
                    refine steps_cons ?_ ?_
                    · rintro b a w' ⟨gb, A1, c1, m6_, m7_, ha, Q_TW, Q_GB, Q_PW, Q_TZ, Q_X6_, Q_X7_⟩ hb_ hon hoff
                      refine ⟨_, rfl, fun K hK => ?_⟩
                      have e109 : a.tmps[109]? = some (.pointer (some ⟨g, 0, none⟩)) := by rw [ha]; exact putSel_on (e := (8, 109, .pointer (some ⟨g, 0, none⟩))) 8 rfl rfl (hon 8 (by kernel_rfl)) rfl
                      replace ha := Aside0.mk ha
                      have PW := Aside0.mk (Q_PW (hon 7 (by kernel_rfl)) (hoff 10 (by kernel_rfl)))
                      refine value_ (w1 := w') (v := .pointer (some ⟨g, 1, none⟩)) (by rfl) rfl ?_ ?_
                      · go_simp
                        (try simp only [i64_w])
                        try rfl
                      refine hK.out _ _ ⟨gb, A1, c1, m6_, m7_, (by rw [ha.out]; exact putSel_upk 9 hb_ rfl rfl rfl), fun h0_ => absurd ((hon 7 (by kernel_rfl)).symm.trans h0_) (by decide), fun _ h1_ => absurd ((hon 7 (by kernel_rfl)).symm.trans h1_) (by decide), Q_PW, fun h0_ => absurd ((hoff 10 (by kernel_rfl)).symm.trans h0_) (by decide), Q_X6_, Q_X7_⟩
                    refine steps_cons ?_ ?_
                    · rintro b a w' ⟨gb, A1, c1, m6_, m7_, ha, Q_TW, Q_GB, Q_PW, Q_TZ, Q_X6_, Q_X7_⟩ hb_ hon hoff
                      refine ⟨_, rfl, fun K hK => ?_⟩
                      have e110 : a.tmps[110]? = some (.pointer (some ⟨g, 1, none⟩)) := by rw [ha]; exact putSel_on (e := (9, 110, .pointer (some ⟨g, 1, none⟩))) 9 rfl rfl (hon 9 (by kernel_rfl)) rfl
                      have e108 : a.tmps[108]? = some (m7_) := by rw [ha]; exact putSel_on (e := (7, 108, m7_)) 7 rfl rfl (hon 7 (by kernel_rfl)) rfl
                      rw [Q_X7_ (hon 7 (by kernel_rfl))] at e108
                      replace ha := Aside0.mk ha
                      have PW := Aside0.mk (Q_PW (hon 7 (by kernel_rfl)) hb_)
                      have hf_ : w'.frozen? ⟨g, 1, none⟩ = false := by have h_ := PW.out.home.free; rw [hm.ho] at h_; exact h_
                      have hc_ : w'.cell? ⟨g, 1, none⟩ = some (.slice Ao out.length co) := by have h_ := PW.out.home.cell; rw [hm.ho] at h_; exact h_
                      refine skip_ (w1 := w'.setCell ⟨g, 1, none⟩ (.slice A1 (n + 1) c1)) (by rfl) rfl ?_ ?_
                      · go_simp
                      refine hK.out _ _ ⟨gb, A1, c1, m6_, m7_, (by rw [ha.out]; exact putSel_none (v := undef) rfl), fun h0_ => absurd ((hon 7 (by kernel_rfl)).symm.trans h0_) (by decide), fun _ h1_ => absurd ((hon 7 (by kernel_rfl)).symm.trans h1_) (by decide), fun _ h1_ => absurd ((up_self b 10).symm.trans h1_) (by decide), fun _ => (by have h_ := PW.out.store; rw [hm.ho] at h_; exact h_), Q_X6_, Q_X7_⟩
                    exact steps_nil
                  rintro b a w8 hall ⟨gb, A1, c1, m6_, m7_, ha, Q_TW, Q_GB, Q_PW, Q_TZ, Q_X6_, Q_X7_⟩
                  have hb0_ := hall 0 (by kernel_rfl)
                  have hb1_ := hall 1 (by kernel_rfl)
                  have hb2_ := hall 2 (by kernel_rfl)
                  have hb3_ := hall 3 (by kernel_rfl)
                  have hb4_ := hall 4 (by kernel_rfl)
                  have hb5_ := hall 5 (by kernel_rfl)
                  have hb6_ := hall 6 (by kernel_rfl)
                  have hb7_ := hall 7 (by kernel_rfl)
                  have hb8_ := hall 8 (by kernel_rfl)
                  have hb9_ := hall 9 (by kernel_rfl)
                  have hb10_ := hall 10 (by kernel_rfl)
                  subst ha
                  obtain rfl := Q_X6_ hb6_
                  obtain rfl := Q_X7_ hb7_
                  simp only [putSel, hb0_, hb1_, hb2_, hb3_, hb4_, hb5_, hb6_, hb7_, hb8_, hb9_, hb10_, if_true, Act.put, List.setIfInBounds_toArray, List.set_cons_zero, List.set_cons_succ]
                  clear Q_TW
                  clear Q_GB
                  clear Q_PW
                  have TZ := Aside0.mk (Q_TZ hb10_)
                  clear Q_TZ
                  clear hall hb0_ hb1_ hb2_ hb3_ hb4_ hb5_ hb6_ hb7_ hb8_ hb9_ hb10_
                  have hI7 := Go.Lib.hid (show In p wr t z2.1.reverse (z2.2 ++ [t]) w8 from by
                    have h := TZ.out
                    rw [HPM.out, HST.out, HOU.out] at h
                    exact h)
                  clear TZ HT_ HW_ hHeld H0 HBX HN HPM HST HOU hm HL hI6
                  have ⟨b0, b1, b2, b3, b4⟩ := hI7.out.box
                  have C40 := Go.Lib.hid (fun w' => s40 ▸ is_calls t 5 ⟨#[40]⟩ w')
                  have C123 := Go.Lib.hid (fun w' => s123 ▸ is_calls t 5 ⟨#[123]⟩ w')
                  generalize isB t 5 [40] = q1 at HRM C40
                  generalize isB t 5 [123] = q2 at HRM C123
                  go_upto_region 24 with fail
                  go_cut [116] from 111 to 115 (fun s116 wx => s116 = .bool (q1 || q2) ∧ Hid (In p wr t z2.1.reverse (z2.2 ++ [t]) wx))
                  case first =>
                    go_wp2_with fail
                    refine (C40.out _).mono ?_
                    rintro e w9 ⟨rfl, hb9⟩
                    have hI8 := Go.Lib.hid (hI7.out.up hb9)
                    clear hb9 b0 b1 b2 b3 b4 hI7
                    have ⟨b0, b1, b2, b3, b4⟩ := hI8.out.box
                    cases q1 with
                    | true =>
                      go_wp2_with fail
                      go_meet
                      exact ⟨rfl, hI8⟩
                    | false =>
                      go_wp2_with fail
                      refine (C123.out _).mono ?_
                      rintro e w10 ⟨rfl, hb10⟩
                      have hI9 := Go.Lib.hid (hI8.out.up hb10)
                      clear hb10 b0 b1 b2 b3 b4 hI8
                      go_wp2_with fail
                      go_meet
                      exact ⟨by rw [Bool.false_or], hI9⟩
                  case rest =>
                    obtain ⟨rfl, hI8⟩ := hcut
                    clear b0 b1 b2 b3 b4 hI7 C40 C123
                    generalize (q1 || q2) = q at *
                    have HNX := Go.Lib.hid (show sz (restM y.2 t y.1) ≤ 5 * (i + 1) from by
                      have h1 := sz_rest y.2 t y.1
                      have h2 := HSZ.out
                      have h3 := hZ.out
                      omega)
                    cases q with
                    | false =>
                      have hr := Go.Lib.hid (show restM y.2 t y.1 = (z2.1, z2.2 ++ [t]) by rw [HRM.out]; rfl)
                      go_wp2_with fail
                      go_roundg (gk - 1)
                      case measure => have := hi.out; have := HLT.out; omega
                      case rel => exact ⟨i + 1, restM y.2 t y.1, Go.Lib.hid (by have := hi.out; have := HLT.out; omega), by go_num, Go.Lib.hid (by rw [hr.out]; exact hI8.out.done hT.out), HF, HNX⟩
                    | true =>
                      have hr := Go.Lib.hid (show restM y.2 t y.1 = ((0, ⟨#[]⟩) :: z2.1, z2.2 ++ [t]) by rw [HRM.out]; rfl)
                      obtain ⟨st, hste⟩ : ∃ st, st = z2.1.reverse := ⟨_, rfl⟩
                      obtain ⟨out, houte⟩ : ∃ out, out = z2.2 ++ [t] := ⟨_, rfl⟩
                      obtain ⟨pm, hpm⟩ : ∃ pm, pm = p.more wr.heap.size (wr.alloc (tO t)) := ⟨_, rfl⟩
                      have hm : Mkr pm g := by rw [hpm]; exact HM.out.more
                      have hls : st.length < 1000000 := by rw [hste, List.length_reverse]; have h1 := HBD.out; have h2 := HZZ.out; have h3 := HSB.out; unfold sz at *; omega
                      obtain ⟨As, cs, Ao, co, hT17⟩ := hI8.out
                      rw [← hste, ← houte, ← hpm] at hT17
                      obtain ⟨ns, hns⟩ : ∃ ns, ns = st.length := ⟨_, rfl⟩
                      have c0 : wc.cell? ⟨g, 0, none⟩ = some (.slice As ns cs) := by have h_ := hT17.cS; rw [hm.hs, ← hns] at h_; exact h_
                      have hrS := Go.Lib.hid (show wc.ownsRow pm.w0.heap.size 41 2 (.slice As ns cs) ns (st.flatMap cF) from by have h_ := hT17.rS; rw [← hns, hm.es] at h_; exact h_)
                      have hbl := Go.Lib.hid hT17.below
                      have HTT := Go.Lib.hid hT17
                      have HNS := Go.Lib.hid hns
                      have HHM := Go.Lib.hid hm
                      have HPM := Go.Lib.hid hpm
                      have HST := Go.Lib.hid hste
                      have HOU := Go.Lib.hid houte
                      have hn2 : ns < 1000000 := by rw [hns]; exact hls
                      clear hste houte hpm hT17 hns hls hm
                      go_wp2_with ((with_reducible refine gate_builtin (b := .append) (xs := #[.tmp 121, .tmp 123]) rfl ?_); at_builtin; refine print_append_cells (w0 := pm.w0) pm.w0.heap.size rfl (.tmp 121) (.tmp 123) 33 41 (.agg #[.int .i64 0, .string ⟨#[]⟩]) 2 24 rfl Try.underlying33 info41 rfl (by decide) (by decide) (.slice As ns cs) ns (st.flatMap cF) (cF (0, ⟨#[]⟩)) rfl (by first | rfl | (go_simp; done) | (go_simp; rfl)) rfl ?q0 ?q1 ?q2 ?q3 ?q4 ?_; (case q0 => exact cF_one _); (case q1 => exact hrS.out); (case q2 => exact hbl.out); (case q3 => exact hbl.out.size); (case q4 => omega); intro v1 w11 ho9 hb9 hg9 hat9; obtain ⟨A9, c9, rfl⟩ := own_slice ho9; have HPS := Go.Lib.hid (show PendS pm As cs st Ao co out (0, ⟨#[]⟩) (.slice A9 (ns + 1) c9) w11 from ⟨_, HTT.out, by rw [← HNS.out, HHM.out.es]; exact ho9, by rw [← HNS.out]; exact hg9, by rw [← HNS.out]; exact hat9⟩); have y0 : w11.cell? ⟨g, 0, none⟩ = some (.slice As ns cs) := (by have h_ := HPS.out.home.cell; rw [HHM.out.hs, ← HNS.out] at h_; exact h_); have y1 : w11.frozen? ⟨g, 0, none⟩ = false := (by have h_ := HPS.out.home.free; rw [HHM.out.hs] at h_; exact h_); clear ho9 hb9 hg9 hat9)
                      have hI9 := Go.Lib.hid (show In p wr t (((0, ⟨#[]⟩) :: z2.1) : List Fr).reverse (z2.2 ++ [t]) (w11.setCell ⟨g, 0, none⟩ (.slice A9 (ns + 1) c9)) from by
                        have h := HPS.out.store
                        rw [HHM.out.hs, HPM.out, HST.out, HOU.out] at h
                        rw [List.reverse_cons]; exact h)
                      clear HPS y0 y1
                      go_roundg (gk - 1)
                      case measure => have := hi.out; have := HLT.out; omega
                      case rel => exact ⟨i + 1, restM y.2 t y.1, Go.Lib.hid (by have := hi.out; have := HLT.out; omega), by go_num, Go.Lib.hid (by rw [hr.out]; exact In.done hT.out hI9.out), HF, HNX⟩
      · have hlt' : ¬ (i : Int) < (l.length : Int) := by omega
        have HF := Go.Lib.hid (show goM l l.length 0 ([], []) = x by
          rw [← hS.out]
          have : gk = 0 := by have := hi.out; omega
          rw [this]; rfl)
        have hil : i = l.length := by have := hi.out; omega
        have HZ := Go.Lib.hid (show sz x ≤ 45000 by have h1 := hZ.out; have h4 := HG.out.le; omega)
        clear hlt hil
        go_wp2_with fail
        go_meet
        exact ⟨x, hT, HF, HZ⟩
  case rest =>
    obtain ⟨x, hT, hF, hZ⟩ := hcut
    clear H0
    have HLP := Go.Lib.hid HG.out.pos
    obtain ⟨jl, hjl⟩ : ∃ jl, l.length = jl + 1 := ⟨l.length - 1, by have := HLP.out; omega⟩
    have hjl0 : (0 : Int) ≤ (jl : Int) := by omega
    have hjl1 : (jl : Int) < (l.length : Int) := by omega
    have hjl2 : (l.length : Int) - 1 = (jl : Int) := by omega
    have HTL := Go.Lib.hid (show ∀ W, Below w.heap.size w W → ∃ ad, A = some ad ∧ W.cell? (ad.add (jl * 5)) = some (.int .i64 (tk l ((l.length : Int) - 1)).f0) ∧ W.cell? ⟨(ad.add (jl * 5)).block, (ad.add (jl * 5)).off + 1, none⟩ = some (.string (tk l ((l.length : Int) - 1)).f1) ∧
        W.cell? ⟨(ad.add (jl * 5)).block, (ad.add (jl * 5)).off + 2, none⟩ = some (.int .i64 (tk l ((l.length : Int) - 1)).f2) ∧ W.cell? ⟨(ad.add (jl * 5)).block, (ad.add (jl * 5)).off + 3, none⟩ = some (.int .i64 (tk l ((l.length : Int) - 1)).f3) ∧ W.cell? ⟨(ad.add (jl * 5)).block, (ad.add (jl * 5)).off + 4, none⟩ = some (.int .i64 (tk l ((l.length : Int) - 1)).f4) from fun W hW => by
      rw [hjl2]
      exact (HR.out.up hW).at_ (by omega))
    have HML := Go.Lib.hid (show markL l = clR (tk l ((l.length : Int) - 1)) x.1 x.2 ++ [tk l ((l.length : Int) - 1)] by unfold markL; rw [hF.out])
    generalize tk l ((l.length : Int) - 1) = t at *
    have F0 := field0
    have HBP := Go.Lib.hid (show ∀ s o W, TwoE p s o W → Below w.heap.size w W from fun s o W h => by have h1 := h.below; rw [HP0.out] at h1; exact h1)
    obtain ⟨ad, rfl, _⟩ := HTL.out _ (HBP.out _ _ _ hT.out)
    have HTL := Go.Lib.hid (show ∀ W, Below w.heap.size w W → W.cell? (ad.add (jl * 5)) = some (.int .i64 t.f0) ∧ W.cell? ⟨(ad.add (jl * 5)).block, (ad.add (jl * 5)).off + 1, none⟩ = some (.string t.f1) ∧
        W.cell? ⟨(ad.add (jl * 5)).block, (ad.add (jl * 5)).off + 2, none⟩ = some (.int .i64 t.f2) ∧ W.cell? ⟨(ad.add (jl * 5)).block, (ad.add (jl * 5)).off + 3, none⟩ = some (.int .i64 t.f3) ∧ W.cell? ⟨(ad.add (jl * 5)).block, (ad.add (jl * 5)).off + 4, none⟩ = some (.int .i64 t.f4) from fun W hW => by
      obtain ⟨_, e, h⟩ := HTL.out W hW
      cases e
      exact h)
    have HJL := Go.Lib.hid hjl
    clear hjl
    go_wp2_with fail
    go_loopg [] x.1.length (fun k wr => ∃ (r : List Fr) (o : List S27), Hid (r.length = k) ∧ Hid (TwoE p r.reverse o wr) ∧ Hid (clR t r o = clR t x.1 x.2) ∧ Hid (o.length + r.length ≤ 45000))
    case atStart => exact ⟨x.1, x.2, Go.Lib.hid rfl, hT, Go.Lib.hid rfl, Go.Lib.hid (by have := hZ.out; unfold sz at this; omega)⟩
    case round =>
      clear hT hF hZ
      obtain ⟨r, o, hk, hT, hS, hZ⟩ := hrel
      cases r with
      | nil =>
        obtain ⟨As, cs, Ao, co, hT2⟩ := hT.out
        have c0 : wr.cell? ⟨g, 0, none⟩ = some (.slice As 0 cs) := by have h_ := hT2.cS; rw [HM.out.hs] at h_; exact h_
        have HMK := Go.Lib.hid (show markL l = o ++ [t] by rw [HML.out, ← hS.out]; rfl)
        have HT2 := Go.Lib.hid hT2
        clear hT2 hS HML
        go_wp2_with fail
        clear c0
        obtain ⟨st, hste⟩ : ∃ st : List Fr, st = [] := ⟨_, rfl⟩
        have HST := Go.Lib.hid hste
        obtain ⟨out, houte⟩ : ∃ out, out = o := ⟨_, rfl⟩
        have HOU := Go.Lib.hid houte
        have hm := HM.out
        have HL := Go.Lib.hid (show out.length < 1000000 by rw [houte]; have := hZ.out; omega)
        have HBW := Go.Lib.hid (show ∀ W', Two p As cs st Ao co out W' → Below w.heap.size w W' from fun W' h => by
          have h1 := h.below
          rw [HP0.out] at h1
          exact h1)
        obtain ⟨n, hn⟩ : ∃ n, n = out.length := ⟨_, rfl⟩
        have HN := Go.Lib.hid hn
        have H0 := Go.Lib.hid (show Two p As cs st Ao co out wr.drew from by rw [hste, houte]; exact HT2.out.drew)
        obtain ⟨ll, hll⟩ : ∃ ll, ll = l.length := ⟨_, rfl⟩
        have HLL := Go.Lib.hid hll
        have hw : IntKind.i64.wrap ((ll : Int) - 1) = (jl : Int) := by rw [IntKind.wrap_i64]; omega
        have hjl9 : (jl : Int) < (ll : Int) := by omega
        rw [← hll]
        clear hjl2 hjl1 hste houte hn HT2 hll hl hl0
        refine start_ (n := 16) (S := fun w' => True) (ds := []) #[false, false, false, false, false, false, false, false, false, false, false, false, false, false, false, false] (by kernel_rfl) rfl rfl trivial (fun hHeld => ?_)
        refine with_tabW mark.tab31 mark.bits31 (fun HT_ HW_ => ?_)
        refine inv_at [0, 1, 2, 3, 4, 5, 6, 7, 8, 9, 10, 11, 12, 13, 14, 15] (fun a0_ b a w' => ∃ (gb : Nat) (A1 : Option Addr) (c1 : Nat) (m11_ : Value) (m12_ : Value), a = putSel a0_ b [(0, 148, .pointer (some ⟨g, 0, none⟩)), (1, 149, .pointer (some ⟨g, 0, none⟩)), (2, 150, .pointer (some ⟨g, 0, none⟩)), (3, 151, .pointer (some ⟨g, 1, none⟩)), (4, 152, .slice Ao n co), (5, 153, .slice (some ad) ll c), (6, 154, .slice (some ad) ll c), (7, 155, .int .i64 (ll : Int)), (8, 156, .int .i64 (jl : Int)), (9, 157, .pointer (some (ad.add (jl * 5)))), (10, 158, .agg #[.int .i64 t.f0, .string t.f1, .int .i64 t.f2, .int .i64 t.f3, .int .i64 t.f4]), (11, 159, m11_), (12, 160, m12_), (13, 161, .pointer (some ⟨g, 0, none⟩)), (14, 162, .pointer (some ⟨g, 1, none⟩))] ∧ (b 12 = false → Two p As cs st Ao co out w') ∧ (b 11 = true → b 12 = false → w'.heap[gb]? = some (.cells #[.int .i64 t.f0, .string t.f1, .int .i64 t.f2, .int .i64 t.f3, .int .i64 t.f4] 27)) ∧ (b 12 = true → b 15 = false → PendO p As cs st Ao co out (t) (.slice A1 (n + 1) c1) w') ∧ (b 15 = true → TwoE p st (out ++ [t]) w') ∧ (b 11 = true → (m11_ : Value) = .slice (some ⟨gb, 0, none⟩) 1 1) ∧ (b 12 = true → (m12_ : Value) = .slice A1 (n + 1) c1)) HT_.out HW_.out (by kernel_rfl) (by kernel_rfl) ?_ ?_ ?_
        · exact ⟨0, none, 0, .bool false, .bool false, by simp only [putSel, Bool.false_eq_true, if_false], fun _ => H0.out, fun h_ => absurd h_ (by decide), fun h_ => absurd h_ (by decide), fun h_ => absurd h_ (by decide), fun h_ => absurd h_ (by decide), fun h_ => absurd h_ (by decide)⟩
        · skip
          refine steps_cons ?_ ?_
          · rintro b a w' ⟨gb, A1, c1, m11_, m12_, ha, Q_TW, Q_GB, Q_PW, Q_TZ, Q_X11_, Q_X12_⟩ hb_ hon hoff
            refine ⟨_, rfl, fun K hK => ?_⟩
            have e5 : a.tmps[5]? = some (.pointer (some ⟨g, 0, none⟩)) := by rw [ha]; exact (putSel_off rfl).trans rfl
            replace ha := Aside0.mk ha
            refine value_ (w1 := w') (v := .pointer (some ⟨g, 0, none⟩)) (by rfl) rfl ?_ ?_
            · go_simp
              (try simp only [i64_w])
              try rfl
            refine hK.out _ _ ⟨gb, A1, c1, m11_, m12_, (by rw [ha.out]; exact putSel_upk 0 hb_ rfl rfl rfl), Q_TW, Q_GB, Q_PW, fun h0_ => absurd ((hoff 15 (by kernel_rfl)).symm.trans h0_) (by decide), Q_X11_, Q_X12_⟩
          refine steps_cons ?_ ?_
          · rintro b a w' ⟨gb, A1, c1, m11_, m12_, ha, Q_TW, Q_GB, Q_PW, Q_TZ, Q_X11_, Q_X12_⟩ hb_ hon hoff
            refine ⟨_, rfl, fun K hK => ?_⟩
            have e5 : a.tmps[5]? = some (.pointer (some ⟨g, 0, none⟩)) := by rw [ha]; exact (putSel_off rfl).trans rfl
            replace ha := Aside0.mk ha
            have TW := Aside0.mk (Q_TW (hoff 12 (by kernel_rfl)))
            refine value_ (w1 := w') (v := .pointer (some ⟨g, 0, none⟩)) (by rfl) rfl ?_ ?_
            · go_simp
              (try simp only [i64_w])
              try rfl
            refine hK.out _ _ ⟨gb, A1, c1, m11_, m12_, (by rw [ha.out]; exact putSel_upk 1 hb_ rfl rfl rfl), Q_TW, Q_GB, fun h0_ _ => absurd ((hoff 12 (by kernel_rfl)).symm.trans h0_) (by decide), fun h0_ => absurd ((hoff 15 (by kernel_rfl)).symm.trans h0_) (by decide), Q_X11_, fun h0_ => absurd ((hoff 12 (by kernel_rfl)).symm.trans h0_) (by decide)⟩
          refine steps_cons ?_ ?_
          · rintro b a w' ⟨gb, A1, c1, m11_, m12_, ha, Q_TW, Q_GB, Q_PW, Q_TZ, Q_X11_, Q_X12_⟩ hb_ hon hoff
            refine ⟨_, rfl, fun K hK => ?_⟩
            have e149 : a.tmps[149]? = some (.pointer (some ⟨g, 0, none⟩)) := by rw [ha]; exact putSel_on (e := (1, 149, .pointer (some ⟨g, 0, none⟩))) 1 rfl rfl (hon 1 (by kernel_rfl)) rfl
            replace ha := Aside0.mk ha
            have TW := Aside0.mk (Q_TW (hoff 12 (by kernel_rfl)))
            refine value_ (w1 := w') (v := .pointer (some ⟨g, 0, none⟩)) (by rfl) rfl ?_ ?_
            · go_simp
              (try simp only [i64_w])
              try rfl
            refine hK.out _ _ ⟨gb, A1, c1, m11_, m12_, (by rw [ha.out]; exact putSel_upk 2 hb_ rfl rfl rfl), Q_TW, Q_GB, fun h0_ _ => absurd ((hoff 12 (by kernel_rfl)).symm.trans h0_) (by decide), fun h0_ => absurd ((hoff 15 (by kernel_rfl)).symm.trans h0_) (by decide), Q_X11_, fun h0_ => absurd ((hoff 12 (by kernel_rfl)).symm.trans h0_) (by decide)⟩
          refine steps_cons ?_ ?_
          · rintro b a w' ⟨gb, A1, c1, m11_, m12_, ha, Q_TW, Q_GB, Q_PW, Q_TZ, Q_X11_, Q_X12_⟩ hb_ hon hoff
            refine ⟨_, rfl, fun K hK => ?_⟩
            have e150 : a.tmps[150]? = some (.pointer (some ⟨g, 0, none⟩)) := by rw [ha]; exact putSel_on (e := (2, 150, .pointer (some ⟨g, 0, none⟩))) 2 rfl rfl (hon 2 (by kernel_rfl)) rfl
            replace ha := Aside0.mk ha
            have TW := Aside0.mk (Q_TW (hoff 12 (by kernel_rfl)))
            refine value_ (w1 := w') (v := .pointer (some ⟨g, 1, none⟩)) (by rfl) rfl ?_ ?_
            · go_simp
              (try simp only [i64_w])
              try rfl
            refine hK.out _ _ ⟨gb, A1, c1, m11_, m12_, (by rw [ha.out]; exact putSel_upk 3 hb_ rfl rfl rfl), Q_TW, Q_GB, fun h0_ _ => absurd ((hoff 12 (by kernel_rfl)).symm.trans h0_) (by decide), fun h0_ => absurd ((hoff 15 (by kernel_rfl)).symm.trans h0_) (by decide), Q_X11_, fun h0_ => absurd ((hoff 12 (by kernel_rfl)).symm.trans h0_) (by decide)⟩
          refine steps_cons ?_ ?_
          · rintro b a w' ⟨gb, A1, c1, m11_, m12_, ha, Q_TW, Q_GB, Q_PW, Q_TZ, Q_X11_, Q_X12_⟩ hb_ hon hoff
            refine ⟨_, rfl, fun K hK => ?_⟩
            have e151 : a.tmps[151]? = some (.pointer (some ⟨g, 1, none⟩)) := by rw [ha]; exact putSel_on (e := (3, 151, .pointer (some ⟨g, 1, none⟩))) 3 rfl rfl (hon 3 (by kernel_rfl)) rfl
            replace ha := Aside0.mk ha
            have TW := Aside0.mk (Q_TW (hoff 12 (by kernel_rfl)))
            have hc0_ : w'.cell? ⟨g, 1, none⟩ = some (.slice Ao n co) := (by have h_ := TW.out.cO; rw [hm.ho, ← HN.out] at h_; exact h_)
            refine value_ (w1 := w') (v := .slice Ao n co) (by rfl) rfl ?_ ?_
            · go_simp
              (try simp only [i64_w])
              try rfl
            refine hK.out _ _ ⟨gb, A1, c1, m11_, m12_, (by rw [ha.out]; exact putSel_upk 4 hb_ rfl rfl rfl), Q_TW, Q_GB, fun h0_ _ => absurd ((hoff 12 (by kernel_rfl)).symm.trans h0_) (by decide), fun h0_ => absurd ((hoff 15 (by kernel_rfl)).symm.trans h0_) (by decide), Q_X11_, fun h0_ => absurd ((hoff 12 (by kernel_rfl)).symm.trans h0_) (by decide)⟩
          refine steps_cons ?_ ?_
          · rintro b a w' ⟨gb, A1, c1, m11_, m12_, ha, Q_TW, Q_GB, Q_PW, Q_TZ, Q_X11_, Q_X12_⟩ hb_ hon hoff
            refine ⟨_, rfl, fun K hK => ?_⟩
            have e0 : a.tmps[0]? = some (.slice (some ad) ll c) := by rw [ha]; exact (putSel_off rfl).trans rfl
            replace ha := Aside0.mk ha
            have TW := Aside0.mk (Q_TW (hoff 12 (by kernel_rfl)))
            refine value_ (w1 := w') (v := .slice (some ad) ll c) (by rfl) rfl ?_ ?_
            · go_simp
              (try simp only [i64_w])
              try rfl
            refine hK.out _ _ ⟨gb, A1, c1, m11_, m12_, (by rw [ha.out]; exact putSel_upk 5 hb_ rfl rfl rfl), Q_TW, fun h0_ _ => absurd ((hoff 11 (by kernel_rfl)).symm.trans h0_) (by decide), fun h0_ _ => absurd ((hoff 12 (by kernel_rfl)).symm.trans h0_) (by decide), fun h0_ => absurd ((hoff 15 (by kernel_rfl)).symm.trans h0_) (by decide), fun h0_ => absurd ((hoff 11 (by kernel_rfl)).symm.trans h0_) (by decide), fun h0_ => absurd ((hoff 12 (by kernel_rfl)).symm.trans h0_) (by decide)⟩
          refine steps_cons ?_ ?_
          · rintro b a w' ⟨gb, A1, c1, m11_, m12_, ha, Q_TW, Q_GB, Q_PW, Q_TZ, Q_X11_, Q_X12_⟩ hb_ hon hoff
            refine ⟨_, rfl, fun K hK => ?_⟩
            have e0 : a.tmps[0]? = some (.slice (some ad) ll c) := by rw [ha]; exact (putSel_off rfl).trans rfl
            replace ha := Aside0.mk ha
            have TW := Aside0.mk (Q_TW (hoff 12 (by kernel_rfl)))
            refine value_ (w1 := w') (v := .slice (some ad) ll c) (by rfl) rfl ?_ ?_
            · go_simp
              (try simp only [i64_w])
              try rfl
            refine hK.out _ _ ⟨gb, A1, c1, m11_, m12_, (by rw [ha.out]; exact putSel_upk 6 hb_ rfl rfl rfl), Q_TW, fun h0_ _ => absurd ((hoff 11 (by kernel_rfl)).symm.trans h0_) (by decide), fun h0_ _ => absurd ((hoff 12 (by kernel_rfl)).symm.trans h0_) (by decide), fun h0_ => absurd ((hoff 15 (by kernel_rfl)).symm.trans h0_) (by decide), fun h0_ => absurd ((hoff 11 (by kernel_rfl)).symm.trans h0_) (by decide), fun h0_ => absurd ((hoff 12 (by kernel_rfl)).symm.trans h0_) (by decide)⟩
          refine steps_cons ?_ ?_
          · rintro b a w' ⟨gb, A1, c1, m11_, m12_, ha, Q_TW, Q_GB, Q_PW, Q_TZ, Q_X11_, Q_X12_⟩ hb_ hon hoff
            refine ⟨_, rfl, fun K hK => ?_⟩
            have e154 : a.tmps[154]? = some (.slice (some ad) ll c) := by rw [ha]; exact putSel_on (e := (6, 154, .slice (some ad) ll c)) 6 rfl rfl (hon 6 (by kernel_rfl)) rfl
            replace ha := Aside0.mk ha
            have TW := Aside0.mk (Q_TW (hoff 12 (by kernel_rfl)))
            refine value_ (w1 := w') (v := .int .i64 (ll : Int)) (by rfl) rfl ?_ ?_
            · go_simp
              (try simp only [i64_w])
              try rfl
            refine hK.out _ _ ⟨gb, A1, c1, m11_, m12_, (by rw [ha.out]; exact putSel_upk 7 hb_ rfl rfl rfl), Q_TW, fun h0_ _ => absurd ((hoff 11 (by kernel_rfl)).symm.trans h0_) (by decide), fun h0_ _ => absurd ((hoff 12 (by kernel_rfl)).symm.trans h0_) (by decide), fun h0_ => absurd ((hoff 15 (by kernel_rfl)).symm.trans h0_) (by decide), fun h0_ => absurd ((hoff 11 (by kernel_rfl)).symm.trans h0_) (by decide), fun h0_ => absurd ((hoff 12 (by kernel_rfl)).symm.trans h0_) (by decide)⟩
          refine steps_cons ?_ ?_
          · rintro b a w' ⟨gb, A1, c1, m11_, m12_, ha, Q_TW, Q_GB, Q_PW, Q_TZ, Q_X11_, Q_X12_⟩ hb_ hon hoff
            refine ⟨_, rfl, fun K hK => ?_⟩
            have e155 : a.tmps[155]? = some (.int .i64 (ll : Int)) := by rw [ha]; exact putSel_on (e := (7, 155, .int .i64 (ll : Int))) 7 rfl rfl (hon 7 (by kernel_rfl)) rfl
            replace ha := Aside0.mk ha
            have TW := Aside0.mk (Q_TW (hoff 12 (by kernel_rfl)))
            refine value_ (w1 := w') (v := .int .i64 (jl : Int)) (by rfl) rfl ?_ ?_
            · go_simp
              (try simp only [i64_w])
              try rfl
            refine hK.out _ _ ⟨gb, A1, c1, m11_, m12_, (by rw [ha.out]; exact putSel_upk 8 hb_ rfl rfl rfl), Q_TW, fun h0_ _ => absurd ((hoff 11 (by kernel_rfl)).symm.trans h0_) (by decide), fun h0_ _ => absurd ((hoff 12 (by kernel_rfl)).symm.trans h0_) (by decide), fun h0_ => absurd ((hoff 15 (by kernel_rfl)).symm.trans h0_) (by decide), fun h0_ => absurd ((hoff 11 (by kernel_rfl)).symm.trans h0_) (by decide), fun h0_ => absurd ((hoff 12 (by kernel_rfl)).symm.trans h0_) (by decide)⟩
          refine steps_cons ?_ ?_
          · rintro b a w' ⟨gb, A1, c1, m11_, m12_, ha, Q_TW, Q_GB, Q_PW, Q_TZ, Q_X11_, Q_X12_⟩ hb_ hon hoff
            refine ⟨_, rfl, fun K hK => ?_⟩
            have e153 : a.tmps[153]? = some (.slice (some ad) ll c) := by rw [ha]; exact putSel_on (e := (5, 153, .slice (some ad) ll c)) 5 rfl rfl (hon 5 (by kernel_rfl)) rfl
            have e156 : a.tmps[156]? = some (.int .i64 (jl : Int)) := by rw [ha]; exact putSel_on (e := (8, 156, .int .i64 (jl : Int))) 8 rfl rfl (hon 8 (by kernel_rfl)) rfl
            replace ha := Aside0.mk ha
            have TW := Aside0.mk (Q_TW (hoff 12 (by kernel_rfl)))
            refine value_ (w1 := w') (v := .pointer (some (ad.add (jl * 5)))) (by rfl) rfl ?_ ?_
            · go_simp
              (try simp only [i64_w])
              try rfl
            refine hK.out _ _ ⟨gb, A1, c1, m11_, m12_, (by rw [ha.out]; exact putSel_upk 9 hb_ rfl rfl rfl), Q_TW, fun h0_ _ => absurd ((hoff 11 (by kernel_rfl)).symm.trans h0_) (by decide), fun h0_ _ => absurd ((hoff 12 (by kernel_rfl)).symm.trans h0_) (by decide), fun h0_ => absurd ((hoff 15 (by kernel_rfl)).symm.trans h0_) (by decide), fun h0_ => absurd ((hoff 11 (by kernel_rfl)).symm.trans h0_) (by decide), fun h0_ => absurd ((hoff 12 (by kernel_rfl)).symm.trans h0_) (by decide)⟩
          refine steps_cons ?_ ?_
          · rintro b a w' ⟨gb, A1, c1, m11_, m12_, ha, Q_TW, Q_GB, Q_PW, Q_TZ, Q_X11_, Q_X12_⟩ hb_ hon hoff
            refine ⟨_, rfl, fun K hK => ?_⟩
            have e157 : a.tmps[157]? = some (.pointer (some (ad.add (jl * 5)))) := by rw [ha]; exact putSel_on (e := (9, 157, .pointer (some (ad.add (jl * 5))))) 9 rfl rfl (hon 9 (by kernel_rfl)) rfl
            replace ha := Aside0.mk ha
            have TW := Aside0.mk (Q_TW (hoff 12 (by kernel_rfl)))
            have ht_ := HTL.out w' (HBW.out w' TW.out)
            have hc0_ := ht_.1
            have hc1_ := ht_.2.1
            have hc2_ := ht_.2.2.1
            have hc3_ := ht_.2.2.2.1
            have hc4_ := ht_.2.2.2.2
            clear ht_
            refine value_ (w1 := w') (v := .agg #[.int .i64 t.f0, .string t.f1, .int .i64 t.f2, .int .i64 t.f3, .int .i64 t.f4]) (by rfl) rfl ?_ ?_
            · go_simp
              (try simp only [i64_w])
              try rfl
            refine hK.out _ _ ⟨gb, A1, c1, m11_, m12_, (by rw [ha.out]; exact putSel_upk 10 hb_ rfl rfl rfl), Q_TW, fun h0_ _ => absurd ((hoff 11 (by kernel_rfl)).symm.trans h0_) (by decide), fun h0_ _ => absurd ((hoff 12 (by kernel_rfl)).symm.trans h0_) (by decide), fun h0_ => absurd ((hoff 15 (by kernel_rfl)).symm.trans h0_) (by decide), fun h0_ => absurd ((hoff 11 (by kernel_rfl)).symm.trans h0_) (by decide), fun h0_ => absurd ((hoff 12 (by kernel_rfl)).symm.trans h0_) (by decide)⟩
          refine steps_cons ?_ ?_
          · rintro b a w' ⟨gb, A1, c1, m11_, m12_, ha, Q_TW, Q_GB, Q_PW, Q_TZ, Q_X11_, Q_X12_⟩ hb_ hon hoff
            refine ⟨_, rfl, fun K hK => ?_⟩
            have e158 : a.tmps[158]? = some (.agg #[.int .i64 t.f0, .string t.f1, .int .i64 t.f2, .int .i64 t.f3, .int .i64 t.f4]) := by rw [ha]; exact putSel_on (e := (10, 158, .agg #[.int .i64 t.f0, .string t.f1, .int .i64 t.f2, .int .i64 t.f3, .int .i64 t.f4])) 10 rfl rfl (hon 10 (by kernel_rfl)) rfl
            replace ha := Aside0.mk ha
            have TW := Aside0.mk (Q_TW (hoff 12 (by kernel_rfl)))
            refine value_ (w1 := w'.alloc (.cells #[.int .i64 t.f0, .string t.f1, .int .i64 t.f2, .int .i64 t.f3, .int .i64 t.f4] 27)) (v := .slice (some ⟨w'.heap.size, 0, none⟩) 1 1) (by rfl) rfl ?_ ?_
            · go_simp
            have hn_ : (w'.alloc (.cells #[.int .i64 t.f0, .string t.f1, .int .i64 t.f2, .int .i64 t.f3, .int .i64 t.f4] 27)).heap[w'.heap.size]? = some (.cells #[.int .i64 t.f0, .string t.f1, .int .i64 t.f2, .int .i64 t.f3, .int .i64 t.f4] 27) := blk_new _ _
            have hbw_ : Below w'.heap.size w' (w'.alloc (.cells #[.int .i64 t.f0, .string t.f1, .int .i64 t.f2, .int .i64 t.f3, .int .i64 t.f4] 27)) := below_alloc (Below.refl _ _) _
            obtain ⟨w2, hw2⟩ : ∃ w2, w2 = w'.alloc (.cells #[.int .i64 t.f0, .string t.f1, .int .i64 t.f2, .int .i64 t.f3, .int .i64 t.f4] 27) := ⟨_, rfl⟩
            rw [← hw2]
            rw [← hw2] at hn_ hbw_
            refine hK.out _ _ ⟨w'.heap.size, A1, c1, (.slice (some ⟨w'.heap.size, 0, none⟩) 1 1), m12_, (by rw [ha.out]; exact putSel_upk 11 hb_ rfl rfl rfl), fun _ => (TW.out.up hbw_), fun _ _ => hn_, fun h0_ _ => absurd ((hoff 12 (by kernel_rfl)).symm.trans h0_) (by decide), fun h0_ => absurd ((hoff 15 (by kernel_rfl)).symm.trans h0_) (by decide), fun _ => rfl, fun h0_ => absurd ((hoff 12 (by kernel_rfl)).symm.trans h0_) (by decide)⟩
          refine steps_cons ?_ ?_
          · rintro b a w' ⟨gb, A1, c1, m11_, m12_, ha, Q_TW, Q_GB, Q_PW, Q_TZ, Q_X11_, Q_X12_⟩ hb_ hon hoff
            refine ⟨_, rfl, fun K hK => ?_⟩
            have e152 : a.tmps[152]? = some (.slice Ao n co) := by rw [ha]; exact putSel_on (e := (4, 152, .slice Ao n co)) 4 rfl rfl (hon 4 (by kernel_rfl)) rfl
            have e159 : a.tmps[159]? = some (m11_) := by rw [ha]; exact putSel_on (e := (11, 159, m11_)) 11 rfl rfl (hon 11 (by kernel_rfl)) rfl
            rw [Q_X11_ (hon 11 (by kernel_rfl))] at e159
            replace ha := Aside0.mk ha
            have TW := Aside0.mk (Q_TW hb_)
            have GB := Aside0.mk (Q_GB (hon 11 (by kernel_rfl)) hb_)
            refine app_ (by rfl) rfl (.tmp 152) (.tmp 159) 22 rfl p.w0.heap.size 27 (.agg #[.int .i64 0, .string ⟨#[]⟩, .int .i64 0, .int .i64 0, .int .i64 0]) 5 48 Try.underlying22 info27 rfl (by decide) (.slice Ao n co) n (out.flatMap cT) (eval_of e152) (by have h_ := TW.out.rO; rw [← HN.out] at h_; exact h_) ⟨gb, 0, none⟩ 1 1 (cT (t)) (eval_of e159) rfl (World.news_of_block GB.out) (cT_one _) (by have h_ := HL.out; rw [← HN.out] at h_; simp only [maxLen]; omega) (by have h_ := HL.out; rw [← HN.out] at h_; omega) TW.out.below.size ?_
            intro v2_ w2 ho_ hg_ hat_
            obtain ⟨A1_, c1_, rfl⟩ := own_slice ho_
            refine hK.out _ _ ⟨gb, A1_, c1_, m11_, (.slice A1_ (n + 1) c1_), (by rw [ha.out]; exact putSel_upk 12 hb_ rfl rfl rfl), fun h0_ => absurd ((up_self b 12).symm.trans h0_) (by decide), fun _ h1_ => absurd ((up_self b 12).symm.trans h1_) (by decide), fun _ _ => ⟨w', TW.out, by rw [← HN.out]; exact ho_, by rw [← HN.out]; exact hg_, by rw [← HN.out]; exact hat_⟩, fun h0_ => absurd ((hoff 15 (by kernel_rfl)).symm.trans h0_) (by decide), Q_X11_, fun _ => rfl⟩
          refine steps_cons ?_ ?_
          · rintro b a w' ⟨gb, A1, c1, m11_, m12_, ha, Q_TW, Q_GB, Q_PW, Q_TZ, Q_X11_, Q_X12_⟩ hb_ hon hoff
            refine ⟨_, rfl, fun K hK => ?_⟩
            have e148 : a.tmps[148]? = some (.pointer (some ⟨g, 0, none⟩)) := by rw [ha]; exact putSel_on (e := (0, 148, .pointer (some ⟨g, 0, none⟩))) 0 rfl rfl (hon 0 (by kernel_rfl)) rfl
            replace ha := Aside0.mk ha
            have PW := Aside0.mk (Q_PW (hon 12 (by kernel_rfl)) (hoff 15 (by kernel_rfl)))
            refine value_ (w1 := w') (v := .pointer (some ⟨g, 0, none⟩)) (by rfl) rfl ?_ ?_
            · go_simp
              (try simp only [i64_w])
              try rfl
            refine hK.out _ _ ⟨gb, A1, c1, m11_, m12_, (by rw [ha.out]; exact putSel_upk 13 hb_ rfl rfl rfl), fun h0_ => absurd ((hon 12 (by kernel_rfl)).symm.trans h0_) (by decide), fun _ h1_ => absurd ((hon 12 (by kernel_rfl)).symm.trans h1_) (by decide), Q_PW, fun h0_ => absurd ((hoff 15 (by kernel_rfl)).symm.trans h0_) (by decide), Q_X11_, Q_X12_⟩
          refine steps_cons ?_ ?_
          · rintro b a w' ⟨gb, A1, c1, m11_, m12_, ha, Q_TW, Q_GB, Q_PW, Q_TZ, Q_X11_, Q_X12_⟩ hb_ hon hoff
            refine ⟨_, rfl, fun K hK => ?_⟩
            have e161 : a.tmps[161]? = some (.pointer (some ⟨g, 0, none⟩)) := by rw [ha]; exact putSel_on (e := (13, 161, .pointer (some ⟨g, 0, none⟩))) 13 rfl rfl (hon 13 (by kernel_rfl)) rfl
            replace ha := Aside0.mk ha
            have PW := Aside0.mk (Q_PW (hon 12 (by kernel_rfl)) (hoff 15 (by kernel_rfl)))
            refine value_ (w1 := w') (v := .pointer (some ⟨g, 1, none⟩)) (by rfl) rfl ?_ ?_
            · go_simp
              (try simp only [i64_w])
              try rfl
            refine hK.out _ _ ⟨gb, A1, c1, m11_, m12_, (by rw [ha.out]; exact putSel_upk 14 hb_ rfl rfl rfl), fun h0_ => absurd ((hon 12 (by kernel_rfl)).symm.trans h0_) (by decide), fun _ h1_ => absurd ((hon 12 (by kernel_rfl)).symm.trans h1_) (by decide), Q_PW, fun h0_ => absurd ((hoff 15 (by kernel_rfl)).symm.trans h0_) (by decide), Q_X11_, Q_X12_⟩
          refine steps_cons ?_ ?_
          · rintro b a w' ⟨gb, A1, c1, m11_, m12_, ha, Q_TW, Q_GB, Q_PW, Q_TZ, Q_X11_, Q_X12_⟩ hb_ hon hoff
            refine ⟨_, rfl, fun K hK => ?_⟩
            have e162 : a.tmps[162]? = some (.pointer (some ⟨g, 1, none⟩)) := by rw [ha]; exact putSel_on (e := (14, 162, .pointer (some ⟨g, 1, none⟩))) 14 rfl rfl (hon 14 (by kernel_rfl)) rfl
            have e160 : a.tmps[160]? = some (m12_) := by rw [ha]; exact putSel_on (e := (12, 160, m12_)) 12 rfl rfl (hon 12 (by kernel_rfl)) rfl
            rw [Q_X12_ (hon 12 (by kernel_rfl))] at e160
            replace ha := Aside0.mk ha
            have PW := Aside0.mk (Q_PW (hon 12 (by kernel_rfl)) hb_)
            have hf_ : w'.frozen? ⟨g, 1, none⟩ = false := by have h_ := PW.out.home.free; rw [hm.ho] at h_; exact h_
            have hc_ : w'.cell? ⟨g, 1, none⟩ = some (.slice Ao out.length co) := by have h_ := PW.out.home.cell; rw [hm.ho] at h_; exact h_
            refine skip_ (w1 := w'.setCell ⟨g, 1, none⟩ (.slice A1 (n + 1) c1)) (by rfl) rfl ?_ ?_
            · go_simp
            refine hK.out _ _ ⟨gb, A1, c1, m11_, m12_, (by rw [ha.out]; exact putSel_none (v := undef) rfl), fun h0_ => absurd ((hon 12 (by kernel_rfl)).symm.trans h0_) (by decide), fun _ h1_ => absurd ((hon 12 (by kernel_rfl)).symm.trans h1_) (by decide), fun _ h1_ => absurd ((up_self b 15).symm.trans h1_) (by decide), fun _ => (by have h_ := PW.out.store; rw [hm.ho] at h_; exact h_), Q_X11_, Q_X12_⟩
          exact steps_nil
        rintro b a w8 hall ⟨gb, A1, c1, m11_, m12_, ha, Q_TW, Q_GB, Q_PW, Q_TZ, Q_X11_, Q_X12_⟩
        have hb0_ := hall 0 (by kernel_rfl)
        have hb1_ := hall 1 (by kernel_rfl)
        have hb2_ := hall 2 (by kernel_rfl)
        have hb3_ := hall 3 (by kernel_rfl)
        have hb4_ := hall 4 (by kernel_rfl)
        have hb5_ := hall 5 (by kernel_rfl)
        have hb6_ := hall 6 (by kernel_rfl)
        have hb7_ := hall 7 (by kernel_rfl)
        have hb8_ := hall 8 (by kernel_rfl)
        have hb9_ := hall 9 (by kernel_rfl)
        have hb10_ := hall 10 (by kernel_rfl)
        have hb11_ := hall 11 (by kernel_rfl)
        have hb12_ := hall 12 (by kernel_rfl)
        have hb13_ := hall 13 (by kernel_rfl)
        have hb14_ := hall 14 (by kernel_rfl)
        have hb15_ := hall 15 (by kernel_rfl)
        subst ha
        obtain rfl := Q_X11_ hb11_
        obtain rfl := Q_X12_ hb12_
        simp only [putSel, hb0_, hb1_, hb2_, hb3_, hb4_, hb5_, hb6_, hb7_, hb8_, hb9_, hb10_, hb11_, hb12_, hb13_, hb14_, hb15_, if_true, Act.put, List.setIfInBounds_toArray, List.set_cons_zero, List.set_cons_succ]
        clear Q_TW
        clear Q_GB
        clear Q_PW
        have TZ := Aside0.mk (Q_TZ hb15_)
        clear Q_TZ
        clear hall hb0_ hb1_ hb2_ hb3_ hb4_ hb5_ hb6_ hb7_ hb8_ hb9_ hb10_ hb11_ hb12_ hb13_ hb14_ hb15_
        have hTZ := Go.Lib.hid (show TwoE p [] (o ++ [t]) w8 from by
          have h := TZ.out
          rw [HST.out, HOU.out] at h
          exact h)
        clear TZ HT_ HW_ hHeld H0
        obtain ⟨As1, cs1, Ao1, co1, hT9⟩ := hTZ.out
        have c0 : w8.cell? ⟨g, 1, none⟩ = some (.slice Ao1 (o ++ [t]).length co1) := by have h_ := hT9.cO; rw [HM.out.ho] at h_; exact h_
        rw [← HMK.out] at c0
        have HT9 := Go.Lib.hid hT9
        clear hT9
        go_wp2_with fail
        go_ret2
        refine ⟨⟨Ao1, co1, rfl, ?_⟩, HBP.out _ _ _ hTZ.out⟩
        have h := HT9.out.rO
        rw [← HMK.out, HP0.out] at h
        exact h
      | cons y r =>
        have hT1 : Hid (TwoE p (r.reverse ++ [y]) o wr) := Go.Lib.hid (by have := hT.out; rw [List.reverse_cons] at this; exact this)
        obtain ⟨As, cs, Ao, co, hT2⟩ := hT1.out
        obtain ⟨m, hm0⟩ : ∃ m, m = (r.reverse ++ [y]).length := ⟨_, rfl⟩
        have c0 : wr.cell? ⟨g, 0, none⟩ = some (.slice As m cs) := by have h_ := hT2.cS; rw [HM.out.hs, ← hm0] at h_; exact h_
        have hm3 : 0 < m := by rw [hm0]; simp
        have hm1 : decide ((m : Int) > 0) = true := decide_eq_true (by omega)
        have hm2 : decide ((0 : Int) < (m : Int)) = true := hm1
        have hm4 : decide (0 < m) = true := decide_eq_true hm3
        have HTP := Go.Lib.hid (topE HM.out hT1.out (by have := hZ.out; simp at this ⊢; omega))
        rw [tp_snoc] at HTP
        have hr := Go.Lib.hid (show clR t r (if 0 < y.1 then o ++ [vt 7 t] else o) = clR t x.1 x.2 from hS.out)
        clear hT2 hm0 hT hS
        go_wp2_with fail
        refine HTP.out.mono ?_
        rintro e v1 ⟨rfl, hbv⟩
        have hT2 := Go.Lib.hid (hT1.out.up hbv)
        clear hbv HTP hT1 c0
        by_cases hy : 0 < y.1
        · have hy' : decide (0 < y.1) = true := decide_eq_true hy
          have hy'' : decide (y.1 > 0) = true := decide_eq_true hy
          have hn := Go.Lib.hid (show clR t r (o ++ [vt 7 t]) = clR t x.1 x.2 by rw [← hr.out, if_pos hy])
          have ⟨y0, y1, y2, y3, y4⟩ := HTL.out _ (HBP.out _ _ _ hT2.out)
          have HPU := Go.Lib.hid (putE HM.out 7 t hT2.out (by have := hZ.out; omega))
          clear hy
          go_wp2_with fail
          refine HPU.out.mono ?_
          rintro e v2 ⟨rfl, hT3⟩
          have HPO := Go.Lib.hid (popE HM.out hT3 (by have := hZ.out; simp at this ⊢; omega))
          clear HPU hT3 y0 y1 y2 y3 y4 hT2
          go_wp2_with fail
          refine HPO.out.mono ?_
          rintro e v3 ⟨rfl, hT4⟩
          have HT4 := Go.Lib.hid hT4
          clear HPO hT4
          go_wp2_with fail
          go_roundg r.length
          case measure => have := hk.out; simp at this; omega
          case rel => exact ⟨r, o ++ [vt 7 t], Go.Lib.hid rfl, HT4, hn, Go.Lib.hid (by have := hZ.out; simp at this ⊢; omega)⟩
        · have hy' : decide (0 < y.1) = false := decide_eq_false hy
          have hy'' : decide (y.1 > 0) = false := decide_eq_false hy
          have hn := Go.Lib.hid (show clR t r o = clR t x.1 x.2 by rw [← hr.out, if_neg hy])
          have HPO := Go.Lib.hid (popE HM.out hT2.out (by have := hZ.out; simp at this ⊢; omega))
          clear hy
          go_wp2_with fail
          refine HPO.out.mono ?_
          rintro e v3 ⟨rfl, hT4⟩
          have HT4 := Go.Lib.hid hT4
          clear HPO hT4
          go_wp2_with fail
          go_roundg r.length
          case measure => have := hk.out; simp at this; omega
          case rel => exact ⟨r, o, Go.Lib.hid rfl, HT4, hn, Go.Lib.hid (by have := hZ.out; simp at this ⊢; omega)⟩
end Go.Proofs.Ytchbjjefjmcakaa.Lb
