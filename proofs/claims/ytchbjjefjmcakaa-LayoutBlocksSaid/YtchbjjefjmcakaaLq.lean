/- Layout (the reference) walked. -/
import Derived.Test.YtchbjjefjmcakaaLo
import Derived.Test.YtchbjjefjmcakaaLp
namespace Go.Proofs.Ytchbjjefjmcakaa.Lb
open Go.RowKit Go.Proofs.Ytchbjjefjmcakaa.PLayoutBlocks Go.Proofs.YtchbjjefjmcakaaW.PrintWords Go.Proofs.YtchbjjefjmcakaaW.PrintLast Go.Proofs.YtchbjjefjmcakaaW.PrintMore
set_option linter.unusedVariables false
set_option linter.unusedSimpArgs false
theorem sz_shut (t : S27) (n : Nat) (x : St) (h : n ≤ x.1.length) : sz (shutL t n x) = sz x := by
  unfold sz shutL
  simp only [List.length_append, List.length_replicate, List.length_drop]
  omega
theorem cnt_le (t : S27) : ∀ b : List Fr, cntR t b ≤ b.length
  | [] => Nat.le_refl _
  | c :: r => by
    have := cnt_le t r
    unfold cntR
    split
    · omega
    · rw [List.length_cons]; omega
theorem bk_le (z : List Fr) : (bkR z).length ≤ z.length := (List.takeWhile_sublist _).length_le
theorem let_le : ∀ b : List Fr, letF b 0 ≤ b.length
  | [] => Nat.le_refl _
  | c :: r => by
    have := let_le r
    unfold letF
    split
    · rw [List.length_cons]; omega
    · rw [let_shift]
      split
      · rw [List.length_cons]; omega
      · omega
theorem ends_le (t : S27) (z : List Fr) : (endsR t z).1 ≤ z.length := by
  have h1 := bk_le z
  have h2 := let_le (bkR z)
  unfold endsR
  repeat' split
  all_goals (dsimp only; omega)
theorem sz_lineL (t : S27) (x : St) : sz (lineL t x) ≤ sz x + 1 := by
  have h1 := sz_shut t (cntR t (bkR x.1)) x (Nat.le_trans (cnt_le t _) (bk_le _))
  unfold lineL
  generalize shutL t (cntR t (bkR x.1)) x = y at *
  dsimp only
  split
  · unfold sz at *; simp only [List.length_append, List.length_singleton]; omega
  · omega
theorem sz_restL (fi : Bool) (t : S27) (x : St) : sz (restL fi t x) ≤ sz x + 3 := by
  have h3 : sz (if fi then lineL t x else x) ≤ sz x + 1 := by
    split
    · exact sz_lineL t x
    · omega
  unfold restL
  generalize (if fi then lineL t x else x) = y at *
  have h4 := sz_shut t (endsR t y.1).1 y (ends_le t y.1)
  dsimp only
  generalize shutL t (endsR t y.1).1 y = z at *
  unfold sz at *
  simp only [List.length_append, List.length_singleton]
  repeat' split
  all_goals (try simp only [List.length_cons, List.length_tail])
  all_goals omega
theorem opens_rev (z : List Fr) : opens z = opens z.reverse := by unfold opens; rw [List.countP_reverse]
theorem opens_take {st : List Fr} {j : Nat} {y : Fr} (h : st[j]? = some y) : opens (st.take (j + 1)) = opens (st.take j) + if 0 < y.1 then 1 else 0 := by
  obtain ⟨hl, rfl⟩ := List.getElem?_eq_some_iff.1 h
  unfold opens
  rw [List.take_succ_eq_append_getElem hl, List.countP_append, List.countP_singleton]
  simp only [decide_eq_true_eq]
theorem opens_le (st : List Fr) : opens st ≤ st.length := List.countP_le_length
theorem Two.rdG {p : Pm} {As Ao : Option Addr} {cs co : Nat} {st : List Fr} {out : List S27} {W : World} (h : Two p As cs st Ao co out W) (hl : st.length < 1000000) : RdG W As st := by
  have h1 := h.rd48 hl
  rw [List.length_map] at h1
  exact h1
theorem cl17x {p : Pm} {go gs : Nat} (hm : Rfr p go gs) (t : S27) (m : Nat) {x : St} {W : World} (h : TwoE p x.1.reverse x.2 W) (hn : m ≤ x.1.length) (hl : sz x < 1000000) :
    Calls Try.prog 17 #[.int .i64 m, tV t, .pointer (some ⟨go, 0, none⟩), .pointer (some ⟨gs, 0, none⟩)] W fun e w' => e = .returned (.tuple #[]) ∧ TwoE p (shutL t m x).1.reverse (shutL t m x).2 w' := by
  have h1 := cl17 hm t m h (by rw [List.length_reverse]; exact hn) (by rw [List.length_reverse]; exact hl)
  rw [List.length_reverse, ← List.reverse_drop] at h1
  exact h1
theorem cntR_le_sz (t : S27) (z : St) : cntR t (bkR z.1) ≤ z.1.length := Nat.le_trans (cnt_le t _) (bk_le _)
theorem ends_lt (t : S27) (z : List Fr) (h : (endsR t z).2 = true) : (endsR t z).1 < z.length := by
  unfold endsR at h ⊢
  by_cases h1 : (isB t 5 [41] || isB t 5 [125]) = true
  · rw [if_pos h1] at h ⊢
    simpa using h
  · rw [if_neg h1] at h
    repeat' split at h
    all_goals simp at h
/-- Layout's places. -/
def pm1 (w W : World) (go gs : Nat) : Pm := { w0 := w, hs := ⟨gs, 0, none⟩, ho := ⟨go, 0, none⟩, ts := 44, tq := 22, es := 48, Kp := fun _ => False, W0 := W }
theorem pm1_ok {w W : World} {go gs : Nat} (h : w.heap.size ≤ go) (h2 : go < gs) : (pm1 w W go gs).ok :=
  ⟨fun e => (by injection e with e _ _; omega), by show (48 : Nat) ≠ 44; decide, by show (48 : Nat) ≠ 22; decide, by show (27 : Nat) ≠ 44; decide, by show (27 : Nat) ≠ 22; decide, by show (48 : Nat) ≠ 27; decide, by show w.heap.size ≤ gs; omega, h⟩
theorem lay_start (w : World) : TwoE (pm1 w w w.heap.size (w.heap.size + 1)) [] [] ((w.alloc (.cells #[.slice none 0 0] 22)).alloc (.cells #[.slice none 0 0] 44)) := by
  have h1 := blk_new w (.cells #[.slice none 0 0] 22)
  have hb1 := below_alloc (Below.refl w.heap.size w) (.cells #[.slice none 0 0] 22)
  have h2 := blk_new (w.alloc (.cells #[.slice none 0 0] 22)) (.cells #[.slice none 0 0] 44)
  have hs : (w.alloc (.cells #[.slice none 0 0] 22)).heap.size = w.heap.size + 1 := by simp
  have hb2 := below_alloc (Below.refl (w.alloc (.cells #[.slice none 0 0] 22)).heap.size (w.alloc (.cells #[.slice none 0 0] 22))) (.cells #[.slice none 0 0] 44)
  have h3 := (blk_up h1 hb2)
  rw [hs] at h2
  refine ⟨none, 0, none, 0, pm1_ok (Nat.le_refl _) (Nat.lt_succ_self _), ⟨_, h2, rfl, rfl⟩, ⟨_, h3, rfl, rfl⟩, World.ownsRow_nil _ _ _ _, World.ownsRow_nil _ _ _ _, below_alloc hb1 _, ?_, fun b h => h.elim, fun b h => h.elim⟩
  show w.heap.size ≤ _
  simp
  omega
theorem pm1_rfr (w W : World) (go gs : Nat) : Rfr (pm1 w W go gs) go gs := ⟨rfl, rfl, rfl⟩
def lay.T12 : Bool × List (List Nat × List Nat) := (true, [([], []), ([], []), ([1], [1]), ([2], [2]), ([0, 3, 2], [0, 3]), ([4, 4, 0, 1, 2, 3, 4], [4])])
def lay.B12 : List Nat := [0, 0, 2, 6, 15, 31]
theorem lay.tab12 : rtab .any (opsOf Try.f8 12) = lay.T12 := by kernel_rfl
theorem lay.bits12 : waitsOk lay.T12.2 lay.B12 = true := by kernel_rfl
def lay.T16 : Bool × List (List Nat × List Nat) := (true, [([], []), ([], []), ([1], [1]), ([2], [2]), ([0, 3, 2], [0, 3]), ([4, 4, 0, 1, 2, 3, 4], [4])])
def lay.B16 : List Nat := [0, 0, 2, 6, 15, 31]
theorem lay.tab16 : rtab .any (opsOf Try.f8 16) = lay.T16 := by kernel_rfl
theorem lay.bits16 : waitsOk lay.T16.2 lay.B16 = true := by kernel_rfl
def lay.T14 : Bool × List (List Nat × List Nat) := (true, [([], []), ([], []), ([1], [1]), ([], []), ([], []), ([4], [4]), ([3, 5], [3, 5]), ([6], [6]), ([7], [7]), ([2, 8], [2, 8]), ([9], [9]), ([0, 10], [0, 10]), ([11, 11, 0, 1, 2, 3, 4, 5, 6, 7, 8, 9, 10, 11], [11])])
def lay.B14 : List Nat := [0, 0, 2, 0, 0, 16, 56, 120, 248, 510, 1022, 2047, 4095]
theorem lay.tab14 : rtab .any (opsOf Try.f8 14) = lay.T14 := by kernel_rfl
theorem lay.bits14 : waitsOk lay.T14.2 lay.B14 = true := by kernel_rfl
def lay.T28 : Bool × List (List Nat × List Nat) := (true, [([], []), ([], []), ([1], [1]), ([2], [2]), ([0, 3, 2], [0, 3]), ([4, 4, 0, 1, 2, 3, 4], [4])])
def lay.B28 : List Nat := [0, 0, 2, 6, 15, 31]
theorem lay.tab28 : rtab .any (opsOf Try.f8 28) = lay.T28 := by kernel_rfl
theorem lay.bits28 : waitsOk lay.T28.2 lay.B28 = true := by kernel_rfl
def lay.T41 : Bool × List (List Nat × List Nat) := (true, [([], []), ([], []), ([1], [1]), ([2], [2]), ([0, 3, 2], [0, 3]), ([4, 4, 0, 1, 2, 3, 4], [4])])
def lay.B41 : List Nat := [0, 0, 2, 6, 15, 31]
theorem lay.tab41 : rtab .any (opsOf Try.f8 41) = lay.T41 := by kernel_rfl
theorem lay.bits41 : waitsOk lay.T41.2 lay.B41 = true := by kernel_rfl
set_option maxHeartbeats 16000000 in
set_option maxRecDepth 100000 in
theorem layout_ok (l : List S27) (A : Option Addr) (c : Nat) (w : World) (hR : RdT w A l) (hG : Good l) :
    Calls Try.prog 8 #[.slice A l.length c] w fun e w' => (∃ (A' : Option Addr) (c' : Nat), e = .returned (.slice A' (layL l).length c') ∧ w'.ownsRow w.heap.size 27 5 (.slice A' (layL l).length c') (layL l).length ((layL l).flatMap cT)) ∧ Below w.heap.size w w' := by
  have HR := Go.Lib.hid hR
  have HG := Go.Lib.hid hG
  have hl : (l.length : Int) ≤ 9000 := by have := hG.le; omega
  have hl0 : (0 : Int) ≤ (l.length : Int) := by omega
  clear hR hG
  go_enter Try.func8, Try.ntmps8
  go_wp2_with fail
  have H0 := Go.Lib.hid (lay_start w)
  have HM := Go.Lib.hid (pm1_rfr w w w.heap.size (w.heap.size + 1))
  have HP0 := Go.Lib.hid (show (pm1 w w w.heap.size (w.heap.size + 1)).w0 = w from rfl)
  generalize (w.alloc (.cells #[.slice none 0 0] 22)).alloc (.cells #[.slice none 0 0] 44) = w2 at *
  generalize pm1 w w w.heap.size (w.heap.size + 1) = p at *
  obtain ⟨go, hgo⟩ : ∃ go, go = w.heap.size := ⟨_, rfl⟩
  obtain ⟨gs, hgs⟩ : ∃ gs, gs = w.heap.size + 1 := ⟨_, rfl⟩
  rw [← hgs, ← hgo] at HM ⊢
  clear hgs hgo
  go_loopg [23] l.length (fun k v23 wr => ∃ (i : Nat) (x : St), Hid (i + k = l.length) ∧ v23 = .int .i64 i ∧ Hid (TwoE p x.1.reverse x.2 wr) ∧ Hid (goL l k i x = layL l) ∧ Hid (sz x ≤ 5 * i))
  case atStart => exact ⟨0, ([], []), Go.Lib.hid (by omega), rfl, H0, Go.Lib.hid rfl, Go.Lib.hid (by decide)⟩
  case round =>
    clear H0
    obtain ⟨i, x, hi, rfl, hT, hS, hZ⟩ := hrel
    by_cases hlt : i < l.length
    · have hlt' : (i : Int) < (l.length : Int) := by omega
      have HLT := Go.Lib.hid hlt
      have hbw := Go.Lib.hid (show Below w.heap.size w wr from by have h := hT.out.below; rw [HP0.out] at h; exact h)
      obtain ⟨ad, rfl, x0, x1, x2, x3, x4⟩ := (HR.out.up hbw.out).at_ hlt
      have hIn := Go.Lib.hid (In.start (t := tk l (i : Int)) hT.out)
      have HPV := Go.Lib.hid (show ∀ j : Nat, i = j + 1 → ∀ W, Below w.heap.size w W → W.cell? (ad.add (j * 5)) = some (.int .i64 (tk l ((i : Int) - 1)).f0) ∧ W.cell? ⟨(ad.add (j * 5)).block, (ad.add (j * 5)).off + 1, none⟩ = some (.string (tk l ((i : Int) - 1)).f1) ∧
          W.cell? ⟨(ad.add (j * 5)).block, (ad.add (j * 5)).off + 2, none⟩ = some (.int .i64 (tk l ((i : Int) - 1)).f2) ∧ W.cell? ⟨(ad.add (j * 5)).block, (ad.add (j * 5)).off + 3, none⟩ = some (.int .i64 (tk l ((i : Int) - 1)).f3) ∧ W.cell? ⟨(ad.add (j * 5)).block, (ad.add (j * 5)).off + 4, none⟩ = some (.int .i64 (tk l ((i : Int) - 1)).f4) from fun j hj W hW => by
        obtain ⟨ad', e, h⟩ := (HR.out.up hW).at_ (show j < l.length by omega)
        cases e
        rw [show ((i : Int) - 1) = (j : Int) by omega]
        exact h)
      have HS := Go.Lib.hid (show goL l gk i x = (let y := openM (opI i (tk l ((i : Int) - 1))) (fiL i (tk l ((i : Int) - 1)) (tk l (i : Int))) (tk l ((i : Int) - 1)) (tk l (i : Int)) x; if (tk l (i : Int)).f0 = 9 then y.1.2 ++ List.replicate (opens y.1.1) (vt 7 (tk l (i : Int))) ++ [tk l (i : Int)] else goL l (gk - 1) (i + 1) (restL y.2 (tk l (i : Int)) y.1)) from by
        obtain ⟨d, hd⟩ : ∃ d, gk = d + 1 := ⟨gk - 1, by have := hi.out; omega⟩
        rw [hd]; rfl)
      have HOP := Go.Lib.hid (opener_calls (tk l ((i : Int) - 1)))
      generalize tk l ((i : Int) - 1) = pv at *
      generalize tk l (i : Int) = t at *
      clear hlt
      go_upto_region 7 with fail
      go_cut [8] from 28 to 40 (fun s8 wx => s8 = .bool (fiL i pv t) ∧ Hid (In p wr t x.1.reverse x.2 wx))
      case first =>
        by_cases h0 : i = 0
        · have h0' : (((i : Int) == 0) : Bool) = true := by simp [h0]
          have hf := Go.Lib.hid (show fiL i pv t = true by simp [fiL, h0])
          clear h0
          go_quiet (fail)
          go_wp2_with fail
          go_meet
          exact ⟨by rw [hf.out], Go.Lib.hid (hIn.out.up (pw_below_drewN (Below.refl _ _) _))⟩
        · obtain ⟨j, hj⟩ : ∃ j, i = j + 1 := ⟨i - 1, by omega⟩
          have h0' : (((i : Int) == 0) : Bool) = false := beq_eq_false_iff_ne.mpr (by omega)
          have hw : IntKind.i64.wrap ((i : Int) - 1) = (j : Int) := by rw [IntKind.wrap_i64]; omega
          have hj0 : (0 : Int) ≤ (j : Int) := by omega
          have hjl : (j : Int) < (l.length : Int) := by omega
          have y3 := (HPV.out j hj (wr.alloc (tO t)) (below_alloc hbw.out _)).2.2.2.1
          have b3 := hIn.out.box.c3
          have hf := Go.Lib.hid (show fiL i pv t = (pv.f3 != t.f3) by simp [fiL, h0, bne, Bool.beq_eq_decide_eq])
          clear h0 hj
          go_quiet (fail)
          go_wp2_with fail
          go_meet
          exact ⟨by rw [hf.out], Go.Lib.hid (hIn.out.up (pw_below_drewN (Below.refl _ _) _))⟩
      case rest =>
        obtain ⟨rfl, hI1⟩ := hcut
        clear x0 x1 x2 x3 x4 hIn
        go_upto_region 8 with fail
        go_cut [50] from 41 to 49 (fun s50 wx => s50 = .bool (opI i pv) ∧ Hid (In p wr t x.1.reverse x.2 wx))
        case first =>
          by_cases h0 : i = 0
          · have h0' : decide ((i : Int) > 0) = false := decide_eq_false (by omega)
            have h0'' : decide ((0 : Int) < (i : Int)) = false := decide_eq_false (by omega)
            have h0n : decide (0 < i) = false := decide_eq_false (by omega)
            have hf := Go.Lib.hid (show opI i pv = false by simp [opI, h0])
            clear h0
            go_wp2_with fail
            go_meet
            exact ⟨by rw [hf.out], hI1⟩
          · obtain ⟨j, hj⟩ : ∃ j, i = j + 1 := ⟨i - 1, by omega⟩
            have h0' : decide ((i : Int) > 0) = true := decide_eq_true (by omega)
            have h0'' : decide ((0 : Int) < (i : Int)) = true := decide_eq_true (by omega)
            have h0n : decide (0 < i) = true := decide_eq_true (by omega)
            have hj0 : (0 : Int) ≤ (j : Int) := by omega
            have hjl : (j : Int) < (l.length : Int) := by omega
            have hij : (i : Int) - 1 = (j : Int) := by omega
            have hb1 := hI1.out.below
            rw [HP0.out] at hb1
            have hji : j = i - 1 := by omega
            have y := HPV.out j hj wc hb1
            rw [hji] at y
            obtain ⟨y0, y1, y2, y3, y4⟩ := y
            have hf := Go.Lib.hid (show opI i pv = opB pv by simp [opI]; omega)
            clear h0 hj hb1
            go_wp2_with fail
            refine (HOP.out _).mono ?_
            rintro e w5 ⟨rfl, hb5⟩
            have hI2 := Go.Lib.hid (hI1.out.up hb5)
            clear hb5
            go_wp2_with fail
            go_meet
            exact ⟨by rw [hf.out], hI2⟩
        case rest =>
          obtain ⟨rfl, hI2⟩ := hcut
          have HIJ := Go.Lib.hid (show opI i pv = true → ∃ j, i = j + 1 from fun h => ⟨i - 1, by simp [opI] at h; omega⟩)
          have HSZ := Go.Lib.hid (sz_open (opI i pv) (fiL i pv t) pv t x)
          have HO := Go.Lib.hid (show openM (opI i pv) (fiL i pv t) pv t x = _ from by unfold openM; exact rfl)
          generalize hy : openM (opI i pv) (fiL i pv t) pv t x = y at *
          clear hy HOP
          generalize fiL i pv t = fi at *
          generalize opI i pv = op at *
          go_upto_if 50 with fail
          go_cut [8, 9, 10] from 51 to 112 (fun s8 s9 s10 wx => s8 = .bool y.2 ∧ Hid (In p wr t y.1.1.reverse y.1.2 wx))
          case first =>
            cases op with
            | false =>
              have hf := Go.Lib.hid (show y = (x, fi) by rw [HO.out]; rfl)
              go_wp2_with fail
              go_meet
              exact ⟨by rw [hf.out], by rw [hf.out]; exact hI2⟩
            | true =>
              obtain ⟨j, hj⟩ := HIJ.out rfl
              have HJ := Go.Lib.hid hj
              have ⟨b0, b1, b2, b3, b4⟩ := hI2.out.box
              have HEN := Go.Lib.hid (show ∀ As cs Ao co w', Two (p.more wr.heap.size (wr.alloc (tO t))) As cs x.1.reverse Ao co x.2 w' → Calls Try.prog 20 #[.slice As x.1.reverse.length cs] w' fun e w2 => e = .returned (.int .i64 (encR x.1)) ∧ Drawn0 w' w2 from fun As cs Ao co w' h => by
                have h1 := innermost_calls h (by have h1 := hZ.out; have h2 := HLT.out; have h3 := HG.out.le; unfold sz at h1; rw [List.length_reverse]; omega)
                rw [List.reverse_reverse] at h1
                exact h1)
              generalize encR x.1 = en at HO HEN
              clear hj
              go_upto_region 9 with fail
              go_cut [9] from 51 to 58 (fun s9 wx => s9 = .bool (isB t 5 [123]) ∧ Hid (In p wr t x.1.reverse x.2 wx))
              case first =>
                by_cases h5 : t.f0 = 5
                · have h5' : (t.f0 == 5) = true := by simp [h5]
                  have hf := Go.Lib.hid (show isB t 5 [123] = (t.f1.toList == [123]) by simp [isB, h5])
                  clear h5
                  go_wp2_with fail
                  go_meet
                  exact ⟨by rw [hf.out], hI2⟩
                · have h5' : (t.f0 == 5) = false := by simp [h5]
                  have hf := Go.Lib.hid (show isB t 5 [123] = false by simp [isB, h5])
                  clear h5
                  go_wp2_with fail
                  go_meet
                  exact ⟨by rw [hf.out], hI2⟩
              case rest =>
                obtain ⟨rfl, hI3⟩ := hcut
                clear hI2 b0 b1 b2 b3 b4
                generalize hq : isB t 5 [123] = q at HO
                clear hq
                rename_i wd
                go_upto_region 10 with fail
                go_cut [10] from 59 to 68 (fun s10 wx => s10 = .bool ((t.f0 != 9) && decide (en < t.f4)) ∧ Hid (In p wr t x.1.reverse x.2 wx))
                case first =>
                  have ⟨b0, b1, b2, b3, b4⟩ := hI3.out.box
                  by_cases hk9 : t.f0 = 9
                  · have hk9' : (t.f0 != 9) = false := by simp [hk9]
                    clear hk9 HEN
                    go_quiet (fail)
                    go_wp2_with fail
                    go_meet
                    exact ⟨by rw [hk9']; rfl, Go.Lib.hid (hI3.out.up (pw_below_drewN (Below.refl _ _) _))⟩
                  · have hk9' : (t.f0 != 9) = true := by simp [hk9]
                    obtain ⟨As, cs, Ao, co, hT3⟩ := hI3.out
                    have hT3 := Go.Lib.hid hT3
                    obtain ⟨pm, hpm⟩ : ∃ pm, pm = p.more wr.heap.size (wr.alloc (tO t)) := ⟨_, rfl⟩
                    have HPM := Go.Lib.hid hpm
                    have hst : x.1.reverse.length = x.1.length := List.length_reverse
                    have HSG := Go.Lib.hid (show ∀ w', Two pm As cs x.1.reverse Ao co x.2 w' → (w'.cell? ⟨wr.heap.size, 0, none⟩ = some (.int .i64 t.f0) ∧ w'.cell? ⟨wr.heap.size, 4, none⟩ = some (.int .i64 t.f4) ∧ w'.cell? ⟨gs, 0, none⟩ = some (.slice As x.1.length cs) ∧ Hid (Two pm As cs x.1.reverse Ao co x.2 w')) from fun w' h => by
                      have h2 := h.cS
                      rw [hst] at h2
                      rw [show pm.hs = ⟨gs, 0, none⟩ by rw [hpm]; exact HM.out.more.hs] at h2
                      have h1 := h
                      rw [hpm] at h1
                      exact ⟨(box_of (h1.box (blk_new wr (tO t)))).c0, (box_of (h1.box (blk_new wr (tO t)))).c4, h2, Go.Lib.hid h⟩)
                    rw [← hpm] at hT3 HEN
                    have HE2 := Go.Lib.hid (show ∀ w', Two pm As cs x.1.reverse Ao co x.2 w' → Calls Try.prog 20 #[.slice As x.1.length cs] w' fun e w2 => e = .returned (.int .i64 en) ∧ Two pm As cs x.1.reverse Ao co x.2 w2 from fun w' h => by
                      have h1 := HEN.out _ _ _ _ _ h
                      rw [hst] at h1
                      exact h1.mono fun e w2 h3 => ⟨h3.1, h.up h3.2.below⟩)
                    clear hk9 HEN b0 b1 b2 b3 b4 hpm hst hI3
                    go_region_held3 (fun w' => w'.cell? ⟨wr.heap.size, 0, none⟩ = some (.int .i64 t.f0) ∧ w'.cell? ⟨wr.heap.size, 4, none⟩ = some (.int .i64 t.f4) ∧ w'.cell? ⟨gs, 0, none⟩ = some (.slice As x.1.length cs) ∧ Hid (Two pm As cs x.1.reverse Ao co x.2 w')) (first | exact HSG.out _ hT5.out | exact HSG.out _ (hT3.out.up (below_drew1 (Below.refl _ _)))) (first
                      | (go_at_call 20; refine (HE2.out _ (‹_ ∧ _ ∧ _ ∧ Hid (Two pm As cs x.1.reverse Ao co x.2 _)›).2.2.2.out).mono ?_; rintro e wn ⟨rfl, hbn⟩; have hT5 := Go.Lib.hid hbn; clear hbn))
                    rename_i hHeldX
                    clear hHeldX
                    have hI5 := Go.Lib.hid (show In p wr t x.1.reverse x.2 _ from by have h := hT5.out; rw [HPM.out] at h; exact ⟨_, _, _, _, h⟩)
                    go_wp2_with fail
                    go_meet
                    exact ⟨by rw [hk9']; rfl, hI5⟩
                case rest =>
                  obtain ⟨rfl, hI4⟩ := hcut
                  clear hI3 HEN
                  generalize hdp : ((t.f0 != 9) && decide (en < t.f4)) = dp
                  have HDP := Go.Lib.hid hdp
                  clear hdp
                  cases q with
                  | true =>
                    have hf := Go.Lib.hid (show y = (x, false) by rw [HO.out]; rfl)
                    go_wp2_with fail
                    all_goals go_meet
                    all_goals exact ⟨by rw [hf.out], by rw [hf.out]; exact hI4⟩
                  | false =>
                    go_wp2_with fail
                    obtain ⟨st, hste⟩ : ∃ st, st = x.1.reverse := ⟨_, rfl⟩
                    obtain ⟨out, houte⟩ : ∃ out, out = x.2 := ⟨_, rfl⟩
                    obtain ⟨pm, hpm⟩ : ∃ pm, pm = p.more wr.heap.size (wr.alloc (tO t)) := ⟨_, rfl⟩
                    have HPM := Go.Lib.hid hpm
                    have HST := Go.Lib.hid hste
                    have HOU := Go.Lib.hid houte
                    have hm : Rfr pm go gs := by rw [hpm]; exact HM.out.more
                    have HL := Go.Lib.hid (show out.length < 1000000 by rw [houte]; have h1 := hZ.out; have h2 := HLT.out; have h3 := HG.out.le; unfold sz at h1; omega)
                    obtain ⟨As, cs, Ao, co, hT17⟩ := hI4.out
                    rw [← hste, ← houte, ← hpm] at hT17
                    have HBX := Go.Lib.hid (show ∀ W', Two pm As cs st Ao co out W' → W'.heap[wr.heap.size]? = some (tO t) from fun W' h => by
                      rw [hpm] at h; exact h.box (blk_new wr (tO t)))
                    obtain ⟨n, hn⟩ : ∃ n, n = out.length := ⟨_, rfl⟩
                    have HN := Go.Lib.hid hn
                    have H0 := Go.Lib.hid hT17.drew
                    clear hste houte hpm hT17 hn
                    refine start_ (n := 6) (S := fun w' => True) (ds := []) #[false, false, false, false, false, false] (by kernel_rfl) rfl rfl trivial (fun hHeld => ?_)
                    refine with_tabW lay.tab12 lay.bits12 (fun HT_ HW_ => ?_)
                    refine inv_at [0, 1, 2, 3, 4, 5] (fun a0_ b a w' => ∃ (gb : Nat) (A1 : Option Addr) (c1 : Nat) (m3_ : Value) (m4_ : Value), a = putSel a0_ b [(0, 71, .slice Ao n co), (1, 72, .agg #[.int .i64 t.f0, .string t.f1, .int .i64 t.f2, .int .i64 t.f3, .int .i64 t.f4]), (2, 73, .agg #[.int .i64 6, .string ⟨#[]⟩, .int .i64 0, .int .i64 t.f3, .int .i64 t.f4]), (3, 74, m3_), (4, 75, m4_)] ∧ (b 4 = false → Two pm As cs st Ao co out w') ∧ (b 3 = true → b 4 = false → w'.heap[gb]? = some (.cells #[.int .i64 6, .string ⟨#[]⟩, .int .i64 0, .int .i64 t.f3, .int .i64 t.f4] 27)) ∧ (b 4 = true → b 5 = false → PendO pm As cs st Ao co out ((vt 6 t)) (.slice A1 (n + 1) c1) w') ∧ (b 5 = true → TwoE pm st (out ++ [(vt 6 t)]) w') ∧ (b 3 = true → (m3_ : Value) = .slice (some ⟨gb, 0, none⟩) 1 1) ∧ (b 4 = true → (m4_ : Value) = .slice A1 (n + 1) c1)) HT_.out HW_.out (by kernel_rfl) (by kernel_rfl) ?_ ?_ ?_
                    · exact ⟨0, none, 0, .bool false, .bool false, by simp only [putSel, Bool.false_eq_true, if_false], fun _ => H0.out, fun h_ => absurd h_ (by decide), fun h_ => absurd h_ (by decide), fun h_ => absurd h_ (by decide), fun h_ => absurd h_ (by decide), fun h_ => absurd h_ (by decide)⟩
                    · skip
                      refine steps_cons ?_ ?_
                      · rintro b a w' ⟨gb, A1, c1, m3_, m4_, ha, Q_TW, Q_GB, Q_PW, Q_TZ, Q_X3_, Q_X4_⟩ hb_ hon hoff
                        refine ⟨_, rfl, fun K hK => ?_⟩
                        have e3 : a.tmps[3]? = some (.pointer (some ⟨go, 0, none⟩)) := by rw [ha]; exact (putSel_off rfl).trans rfl
                        replace ha := Aside0.mk ha
                        have TW := Aside0.mk (Q_TW (hoff 4 (by kernel_rfl)))
                        have hc0_ : w'.cell? ⟨go, 0, none⟩ = some (.slice Ao n co) := (by have h_ := TW.out.cO; rw [hm.ho, ← HN.out] at h_; exact h_)
                        refine value_ (w1 := w') (v := .slice Ao n co) (by rfl) rfl ?_ ?_
                        · go_simp
                          (try simp only [i64_w])
                          try rfl
                        refine hK.out _ _ ⟨gb, A1, c1, m3_, m4_, (by rw [ha.out]; exact putSel_upk 0 hb_ rfl rfl rfl), Q_TW, Q_GB, fun h0_ _ => absurd ((hoff 4 (by kernel_rfl)).symm.trans h0_) (by decide), fun h0_ => absurd ((hoff 5 (by kernel_rfl)).symm.trans h0_) (by decide), Q_X3_, fun h0_ => absurd ((hoff 4 (by kernel_rfl)).symm.trans h0_) (by decide)⟩
                      refine steps_cons ?_ ?_
                      · rintro b a w' ⟨gb, A1, c1, m3_, m4_, ha, Q_TW, Q_GB, Q_PW, Q_TZ, Q_X3_, Q_X4_⟩ hb_ hon hoff
                        refine ⟨_, rfl, fun K hK => ?_⟩
                        have e7 : a.tmps[7]? = some (.pointer (some ⟨wr.heap.size, 0, none⟩)) := by rw [ha]; exact (putSel_off rfl).trans rfl
                        replace ha := Aside0.mk ha
                        have TW := Aside0.mk (Q_TW (hoff 4 (by kernel_rfl)))
                        have hc0_ : w'.cell? ⟨wr.heap.size, 0, none⟩ = some (.int .i64 t.f0) := (blk_cell (HBX.out _ TW.out) 0).trans rfl
                        have hc1_ : w'.cell? ⟨wr.heap.size, 1, none⟩ = some (.string t.f1) := (blk_cell (HBX.out _ TW.out) 1).trans rfl
                        have hc2_ : w'.cell? ⟨wr.heap.size, 2, none⟩ = some (.int .i64 t.f2) := (blk_cell (HBX.out _ TW.out) 2).trans rfl
                        have hc3_ : w'.cell? ⟨wr.heap.size, 3, none⟩ = some (.int .i64 t.f3) := (blk_cell (HBX.out _ TW.out) 3).trans rfl
                        have hc4_ : w'.cell? ⟨wr.heap.size, 4, none⟩ = some (.int .i64 t.f4) := (blk_cell (HBX.out _ TW.out) 4).trans rfl
                        refine value_ (w1 := w') (v := .agg #[.int .i64 t.f0, .string t.f1, .int .i64 t.f2, .int .i64 t.f3, .int .i64 t.f4]) (by rfl) rfl ?_ ?_
                        · go_simp
                          (try simp only [i64_w])
                          try rfl
                        refine hK.out _ _ ⟨gb, A1, c1, m3_, m4_, (by rw [ha.out]; exact putSel_upk 1 hb_ rfl rfl rfl), Q_TW, fun h0_ _ => absurd ((hoff 3 (by kernel_rfl)).symm.trans h0_) (by decide), fun h0_ _ => absurd ((hoff 4 (by kernel_rfl)).symm.trans h0_) (by decide), fun h0_ => absurd ((hoff 5 (by kernel_rfl)).symm.trans h0_) (by decide), fun h0_ => absurd ((hoff 3 (by kernel_rfl)).symm.trans h0_) (by decide), fun h0_ => absurd ((hoff 4 (by kernel_rfl)).symm.trans h0_) (by decide)⟩
                      refine steps_cons ?_ ?_
                      · rintro b a w' ⟨gb, A1, c1, m3_, m4_, ha, Q_TW, Q_GB, Q_PW, Q_TZ, Q_X3_, Q_X4_⟩ hb_ hon hoff
                        refine ⟨_, rfl, fun K hK => ?_⟩
                        have e72 : a.tmps[72]? = some (.agg #[.int .i64 t.f0, .string t.f1, .int .i64 t.f2, .int .i64 t.f3, .int .i64 t.f4]) := by rw [ha]; exact putSel_on (e := (1, 72, .agg #[.int .i64 t.f0, .string t.f1, .int .i64 t.f2, .int .i64 t.f3, .int .i64 t.f4])) 1 rfl rfl (hon 1 (by kernel_rfl)) rfl
                        replace ha := Aside0.mk ha
                        have TW := Aside0.mk (Q_TW (hoff 4 (by kernel_rfl)))
                        refine goesF_ Try.func18 (by kernel_rfl) rfl #[.int .i64 6, .agg #[.int .i64 t.f0, .string t.f1, .int .i64 t.f2, .int .i64 t.f3, .int .i64 t.f4]] (by rfl) rfl rfl (by first | (simp only [List.map_toArray, List.map_cons, List.map_nil, Act.eval, Array.getD_eq_getD_getElem?, Option.getD_some, e72]; done) | (simp only [List.map_toArray, List.map_cons, List.map_nil, Act.eval, Array.getD_eq_getD_getElem?, Option.getD_some, e72]; rfl)) ?_
                        refine (virt_calls 6 t _).mono ?_
                        rintro e_ w2 ⟨rfl, hbw_⟩
                        refine ⟨_, rfl, ?_⟩
                        refine hK.out _ _ ⟨gb, A1, c1, m3_, m4_, (by rw [ha.out]; exact putSel_upk 2 hb_ rfl rfl rfl), fun _ => (TW.out.up hbw_), fun h0_ _ => absurd ((hoff 3 (by kernel_rfl)).symm.trans h0_) (by decide), fun h0_ _ => absurd ((hoff 4 (by kernel_rfl)).symm.trans h0_) (by decide), fun h0_ => absurd ((hoff 5 (by kernel_rfl)).symm.trans h0_) (by decide), fun h0_ => absurd ((hoff 3 (by kernel_rfl)).symm.trans h0_) (by decide), fun h0_ => absurd ((hoff 4 (by kernel_rfl)).symm.trans h0_) (by decide)⟩
                      refine steps_cons ?_ ?_
                      · rintro b a w' ⟨gb, A1, c1, m3_, m4_, ha, Q_TW, Q_GB, Q_PW, Q_TZ, Q_X3_, Q_X4_⟩ hb_ hon hoff
                        refine ⟨_, rfl, fun K hK => ?_⟩
                        have e73 : a.tmps[73]? = some (.agg #[.int .i64 6, .string ⟨#[]⟩, .int .i64 0, .int .i64 t.f3, .int .i64 t.f4]) := by rw [ha]; exact putSel_on (e := (2, 73, .agg #[.int .i64 6, .string ⟨#[]⟩, .int .i64 0, .int .i64 t.f3, .int .i64 t.f4])) 2 rfl rfl (hon 2 (by kernel_rfl)) rfl
                        replace ha := Aside0.mk ha
                        have TW := Aside0.mk (Q_TW (hoff 4 (by kernel_rfl)))
                        refine value_ (w1 := w'.alloc (.cells #[.int .i64 6, .string ⟨#[]⟩, .int .i64 0, .int .i64 t.f3, .int .i64 t.f4] 27)) (v := .slice (some ⟨w'.heap.size, 0, none⟩) 1 1) (by rfl) rfl ?_ ?_
                        · go_simp
                        have hn_ : (w'.alloc (.cells #[.int .i64 6, .string ⟨#[]⟩, .int .i64 0, .int .i64 t.f3, .int .i64 t.f4] 27)).heap[w'.heap.size]? = some (.cells #[.int .i64 6, .string ⟨#[]⟩, .int .i64 0, .int .i64 t.f3, .int .i64 t.f4] 27) := blk_new _ _
                        have hbw_ : Below w'.heap.size w' (w'.alloc (.cells #[.int .i64 6, .string ⟨#[]⟩, .int .i64 0, .int .i64 t.f3, .int .i64 t.f4] 27)) := below_alloc (Below.refl _ _) _
                        obtain ⟨w2, hw2⟩ : ∃ w2, w2 = w'.alloc (.cells #[.int .i64 6, .string ⟨#[]⟩, .int .i64 0, .int .i64 t.f3, .int .i64 t.f4] 27) := ⟨_, rfl⟩
                        rw [← hw2]
                        rw [← hw2] at hn_ hbw_
                        refine hK.out _ _ ⟨w'.heap.size, A1, c1, (.slice (some ⟨w'.heap.size, 0, none⟩) 1 1), m4_, (by rw [ha.out]; exact putSel_upk 3 hb_ rfl rfl rfl), fun _ => (TW.out.up hbw_), fun _ _ => hn_, fun h0_ _ => absurd ((hoff 4 (by kernel_rfl)).symm.trans h0_) (by decide), fun h0_ => absurd ((hoff 5 (by kernel_rfl)).symm.trans h0_) (by decide), fun _ => rfl, fun h0_ => absurd ((hoff 4 (by kernel_rfl)).symm.trans h0_) (by decide)⟩
                      refine steps_cons ?_ ?_
                      · rintro b a w' ⟨gb, A1, c1, m3_, m4_, ha, Q_TW, Q_GB, Q_PW, Q_TZ, Q_X3_, Q_X4_⟩ hb_ hon hoff
                        refine ⟨_, rfl, fun K hK => ?_⟩
                        have e71 : a.tmps[71]? = some (.slice Ao n co) := by rw [ha]; exact putSel_on (e := (0, 71, .slice Ao n co)) 0 rfl rfl (hon 0 (by kernel_rfl)) rfl
                        have e74 : a.tmps[74]? = some (m3_) := by rw [ha]; exact putSel_on (e := (3, 74, m3_)) 3 rfl rfl (hon 3 (by kernel_rfl)) rfl
                        rw [Q_X3_ (hon 3 (by kernel_rfl))] at e74
                        replace ha := Aside0.mk ha
                        have TW := Aside0.mk (Q_TW hb_)
                        have GB := Aside0.mk (Q_GB (hon 3 (by kernel_rfl)) hb_)
                        refine app_ (by rfl) rfl (.tmp 71) (.tmp 74) 22 rfl pm.w0.heap.size 27 (.agg #[.int .i64 0, .string ⟨#[]⟩, .int .i64 0, .int .i64 0, .int .i64 0]) 5 48 Try.underlying22 info27 rfl (by decide) (.slice Ao n co) n (out.flatMap cT) (eval_of e71) (by have h_ := TW.out.rO; rw [← HN.out] at h_; exact h_) ⟨gb, 0, none⟩ 1 1 (cT ((vt 6 t))) (eval_of e74) rfl (World.news_of_block GB.out) (cT_one _) (by have h_ := HL.out; rw [← HN.out] at h_; simp only [maxLen]; omega) (by have h_ := HL.out; rw [← HN.out] at h_; omega) TW.out.below.size ?_
                        intro v2_ w2 ho_ hg_ hat_
                        obtain ⟨A1_, c1_, rfl⟩ := own_slice ho_
                        refine hK.out _ _ ⟨gb, A1_, c1_, m3_, (.slice A1_ (n + 1) c1_), (by rw [ha.out]; exact putSel_upk 4 hb_ rfl rfl rfl), fun h0_ => absurd ((up_self b 4).symm.trans h0_) (by decide), fun _ h1_ => absurd ((up_self b 4).symm.trans h1_) (by decide), fun _ _ => ⟨w', TW.out, by rw [← HN.out]; exact ho_, by rw [← HN.out]; exact hg_, by rw [← HN.out]; exact hat_⟩, fun h0_ => absurd ((hoff 5 (by kernel_rfl)).symm.trans h0_) (by decide), Q_X3_, fun _ => rfl⟩
                      refine steps_cons ?_ ?_
                      · rintro b a w' ⟨gb, A1, c1, m3_, m4_, ha, Q_TW, Q_GB, Q_PW, Q_TZ, Q_X3_, Q_X4_⟩ hb_ hon hoff
                        refine ⟨_, rfl, fun K hK => ?_⟩
                        have e3 : a.tmps[3]? = some (.pointer (some ⟨go, 0, none⟩)) := by rw [ha]; exact (putSel_off rfl).trans rfl
                        have e75 : a.tmps[75]? = some (m4_) := by rw [ha]; exact putSel_on (e := (4, 75, m4_)) 4 rfl rfl (hon 4 (by kernel_rfl)) rfl
                        rw [Q_X4_ (hon 4 (by kernel_rfl))] at e75
                        replace ha := Aside0.mk ha
                        have PW := Aside0.mk (Q_PW (hon 4 (by kernel_rfl)) hb_)
                        have hf_ : w'.frozen? ⟨go, 0, none⟩ = false := by have h_ := PW.out.home.free; rw [hm.ho] at h_; exact h_
                        have hc_ : w'.cell? ⟨go, 0, none⟩ = some (.slice Ao out.length co) := by have h_ := PW.out.home.cell; rw [hm.ho] at h_; exact h_
                        refine skip_ (w1 := w'.setCell ⟨go, 0, none⟩ (.slice A1 (n + 1) c1)) (by rfl) rfl ?_ ?_
                        · go_simp
                        refine hK.out _ _ ⟨gb, A1, c1, m3_, m4_, (by rw [ha.out]; exact putSel_none (v := undef) rfl), fun h0_ => absurd ((hon 4 (by kernel_rfl)).symm.trans h0_) (by decide), fun _ h1_ => absurd ((hon 4 (by kernel_rfl)).symm.trans h1_) (by decide), fun _ h1_ => absurd ((up_self b 5).symm.trans h1_) (by decide), fun _ => (by have h_ := PW.out.store; rw [hm.ho] at h_; exact h_), Q_X3_, Q_X4_⟩
                      exact steps_nil
                    rintro b a w8 hall ⟨gb, A1, c1, m3_, m4_, ha, Q_TW, Q_GB, Q_PW, Q_TZ, Q_X3_, Q_X4_⟩
                    have hb0_ := hall 0 (by kernel_rfl)
                    have hb1_ := hall 1 (by kernel_rfl)
                    have hb2_ := hall 2 (by kernel_rfl)
                    have hb3_ := hall 3 (by kernel_rfl)
                    have hb4_ := hall 4 (by kernel_rfl)
                    have hb5_ := hall 5 (by kernel_rfl)
                    subst ha
                    obtain rfl := Q_X3_ hb3_
                    obtain rfl := Q_X4_ hb4_
                    simp only [putSel, hb0_, hb1_, hb2_, hb3_, hb4_, hb5_, if_true, Act.put, List.setIfInBounds_toArray, List.set_cons_zero, List.set_cons_succ]
                    clear Q_TW
                    clear Q_GB
                    clear Q_PW
                    have TZ := Aside0.mk (Q_TZ hb5_)
                    clear Q_TZ
                    clear hall hb0_ hb1_ hb2_ hb3_ hb4_ hb5_
                    have hI5 := Go.Lib.hid (show In p wr t x.1.reverse (x.2 ++ [vt 6 t]) w8 from by
                      have h := TZ.out
                      rw [HPM.out, HST.out, HOU.out] at h
                      exact h)
                    clear TZ HT_ HW_ hHeld H0 HBX HN HPM HST HOU hm HL hI4 Q_X3_ Q_X4_
                    cases dp with
                    | true =>
                      have hf := Go.Lib.hid (show y = (((t.f4, pv.f1) :: x.1, x.2 ++ [vt 6 t]), false) by
                        have h1 := HDP.out
                        rw [Bool.and_eq_true] at h1
                        rw [HO.out, if_neg (by decide), if_neg (by decide), if_pos ⟨by simpa using h1.1, by simpa using h1.2⟩])
                      go_wp2_with fail
                      have hj := HJ.out
                      obtain ⟨st, hste⟩ : ∃ st, st = x.1.reverse := ⟨_, rfl⟩
                      obtain ⟨out, houte⟩ : ∃ out, out = x.2 ++ [vt 6 t] := ⟨_, rfl⟩
                      obtain ⟨pm, hpm⟩ : ∃ pm, pm = p.more wr.heap.size (wr.alloc (tO t)) := ⟨_, rfl⟩
                      have HPM := Go.Lib.hid hpm
                      have HST := Go.Lib.hid hste
                      have HOU := Go.Lib.hid houte
                      have hm : Rfr pm go gs := by rw [hpm]; exact HM.out.more
                      have HLS := Go.Lib.hid (show st.length < 1000000 by rw [hste, List.length_reverse]; have h1 := hZ.out; have h2 := HLT.out; have h3 := HG.out.le; unfold sz at h1; omega)
                      obtain ⟨As, cs, Ao, co, hT17⟩ := hI5.out
                      rw [← hste, ← houte, ← hpm] at hT17
                      have HBX := Go.Lib.hid (show ∀ W', Two pm As cs st Ao co out W' → W'.heap[wr.heap.size]? = some (tO t) from fun W' h => by
                        rw [hpm] at h; exact h.box (blk_new wr (tO t)))
                      have HBW := Go.Lib.hid (show ∀ W', Two pm As cs st Ao co out W' → Below w.heap.size w W' from fun W' h => by
                        have h1 := h.below
                        rw [hpm] at h1
                        have e : (p.more wr.heap.size (wr.alloc (tO t))).w0 = w := HP0.out
                        rw [e] at h1; exact h1)
                      obtain ⟨ns, hns⟩ : ∃ ns, ns = st.length := ⟨_, rfl⟩
                      have HNS := Go.Lib.hid hns
                      have H0 := Go.Lib.hid hT17.drew
                      have hw : IntKind.i64.wrap ((i : Int) - 1) = (j : Int) := by rw [IntKind.wrap_i64]; omega
                      have hj0 : (0 : Int) ≤ (j : Int) := by omega
                      have hjl : (j : Int) < (l.length : Int) := by have := HLT.out; omega
                      clear hj hste houte hpm hT17 hns HIJ
                      refine start_ (n := 13) (S := fun w' => True) (ds := []) #[false, false, false, false, false, false, false, false, false, false, false, false, false] (by kernel_rfl) rfl rfl trivial (fun hHeld => ?_)
                      refine with_tabW lay.tab14 lay.bits14 (fun HT_ HW_ => ?_)
                      refine inv_at [0, 1, 2, 3, 4, 5, 6, 7, 8, 9, 10, 11, 12] (fun a0_ b a w' => ∃ (gb : Nat) (A1 : Option Addr) (c1 : Nat) (m10_ : Value) (m11_ : Value), a = putSel a0_ b [(0, 81, .slice As ns cs), (1, 82, .pointer (some ⟨wr.heap.size, 4, none⟩)), (2, 83, .int .i64 t.f4), (3, 84, .slice (some ad) l.length c), (4, 85, .int .i64 (i : Int)), (5, 86, .int .i64 (j : Int)), (6, 87, .pointer (some (ad.add (j * 5)))), (7, 88, .pointer (some ⟨(ad.add (j * 5)).block, (ad.add (j * 5)).off + 1, none⟩)), (8, 89, .string pv.f1), (9, 90, .agg #[.int .i64 t.f4, .string pv.f1]), (10, 91, m10_), (11, 92, m11_)] ∧ (b 11 = false → Two pm As cs st Ao co out w') ∧ (b 10 = true → b 11 = false → w'.heap[gb]? = some (.cells #[.int .i64 t.f4, .string pv.f1] 48)) ∧ (b 11 = true → b 12 = false → PendS pm As cs st Ao co out ((t.f4, pv.f1)) (.slice A1 (ns + 1) c1) w') ∧ (b 12 = true → TwoE pm (st ++ [(t.f4, pv.f1)]) out w') ∧ (b 10 = true → (m10_ : Value) = .slice (some ⟨gb, 0, none⟩) 1 1) ∧ (b 11 = true → (m11_ : Value) = .slice A1 (ns + 1) c1)) HT_.out HW_.out (by kernel_rfl) (by kernel_rfl) ?_ ?_ ?_
                      · exact ⟨0, none, 0, .bool false, .bool false, by simp only [putSel, Bool.false_eq_true, if_false], fun _ => H0.out, fun h_ => absurd h_ (by decide), fun h_ => absurd h_ (by decide), fun h_ => absurd h_ (by decide), fun h_ => absurd h_ (by decide), fun h_ => absurd h_ (by decide)⟩
                      · skip
                        refine steps_cons ?_ ?_
                        · rintro b a w' ⟨gb, A1, c1, m10_, m11_, ha, Q_TW, Q_GB, Q_PW, Q_TZ, Q_X10_, Q_X11_⟩ hb_ hon hoff
                          refine ⟨_, rfl, fun K hK => ?_⟩
                          have e4 : a.tmps[4]? = some (.pointer (some ⟨gs, 0, none⟩)) := by rw [ha]; exact (putSel_off rfl).trans rfl
                          replace ha := Aside0.mk ha
                          have TW := Aside0.mk (Q_TW (hoff 11 (by kernel_rfl)))
                          have hc0_ : w'.cell? ⟨gs, 0, none⟩ = some (.slice As ns cs) := (by have h_ := TW.out.cS; rw [hm.hs, ← HNS.out] at h_; exact h_)
                          refine value_ (w1 := w') (v := .slice As ns cs) (by rfl) rfl ?_ ?_
                          · go_simp
                            (try simp only [i64_w])
                            try rfl
                          refine hK.out _ _ ⟨gb, A1, c1, m10_, m11_, (by rw [ha.out]; exact putSel_upk 0 hb_ rfl rfl rfl), Q_TW, Q_GB, fun h0_ _ => absurd ((hoff 11 (by kernel_rfl)).symm.trans h0_) (by decide), fun h0_ => absurd ((hoff 12 (by kernel_rfl)).symm.trans h0_) (by decide), Q_X10_, fun h0_ => absurd ((hoff 11 (by kernel_rfl)).symm.trans h0_) (by decide)⟩
                        refine steps_cons ?_ ?_
                        · rintro b a w' ⟨gb, A1, c1, m10_, m11_, ha, Q_TW, Q_GB, Q_PW, Q_TZ, Q_X10_, Q_X11_⟩ hb_ hon hoff
                          refine ⟨_, rfl, fun K hK => ?_⟩
                          have e7 : a.tmps[7]? = some (.pointer (some ⟨wr.heap.size, 0, none⟩)) := by rw [ha]; exact (putSel_off rfl).trans rfl
                          replace ha := Aside0.mk ha
                          have TW := Aside0.mk (Q_TW (hoff 11 (by kernel_rfl)))
                          refine value_ (w1 := w') (v := .pointer (some ⟨wr.heap.size, 4, none⟩)) (by rfl) rfl ?_ ?_
                          · go_simp
                            (try simp only [i64_w])
                            try rfl
                          refine hK.out _ _ ⟨gb, A1, c1, m10_, m11_, (by rw [ha.out]; exact putSel_upk 1 hb_ rfl rfl rfl), Q_TW, fun h0_ _ => absurd ((hoff 10 (by kernel_rfl)).symm.trans h0_) (by decide), fun h0_ _ => absurd ((hoff 11 (by kernel_rfl)).symm.trans h0_) (by decide), fun h0_ => absurd ((hoff 12 (by kernel_rfl)).symm.trans h0_) (by decide), fun h0_ => absurd ((hoff 10 (by kernel_rfl)).symm.trans h0_) (by decide), fun h0_ => absurd ((hoff 11 (by kernel_rfl)).symm.trans h0_) (by decide)⟩
                        refine steps_cons ?_ ?_
                        · rintro b a w' ⟨gb, A1, c1, m10_, m11_, ha, Q_TW, Q_GB, Q_PW, Q_TZ, Q_X10_, Q_X11_⟩ hb_ hon hoff
                          refine ⟨_, rfl, fun K hK => ?_⟩
                          have e82 : a.tmps[82]? = some (.pointer (some ⟨wr.heap.size, 4, none⟩)) := by rw [ha]; exact putSel_on (e := (1, 82, .pointer (some ⟨wr.heap.size, 4, none⟩))) 1 rfl rfl (hon 1 (by kernel_rfl)) rfl
                          replace ha := Aside0.mk ha
                          have TW := Aside0.mk (Q_TW (hoff 11 (by kernel_rfl)))
                          have hc0_ : w'.cell? ⟨wr.heap.size, 4, none⟩ = some (.int .i64 t.f4) := (blk_cell (HBX.out _ TW.out) 4).trans rfl
                          refine value_ (w1 := w') (v := .int .i64 t.f4) (by rfl) rfl ?_ ?_
                          · go_simp
                            (try simp only [i64_w])
                            try rfl
                          refine hK.out _ _ ⟨gb, A1, c1, m10_, m11_, (by rw [ha.out]; exact putSel_upk 2 hb_ rfl rfl rfl), Q_TW, fun h0_ _ => absurd ((hoff 10 (by kernel_rfl)).symm.trans h0_) (by decide), fun h0_ _ => absurd ((hoff 11 (by kernel_rfl)).symm.trans h0_) (by decide), fun h0_ => absurd ((hoff 12 (by kernel_rfl)).symm.trans h0_) (by decide), fun h0_ => absurd ((hoff 10 (by kernel_rfl)).symm.trans h0_) (by decide), fun h0_ => absurd ((hoff 11 (by kernel_rfl)).symm.trans h0_) (by decide)⟩
                        refine steps_cons ?_ ?_
                        · rintro b a w' ⟨gb, A1, c1, m10_, m11_, ha, Q_TW, Q_GB, Q_PW, Q_TZ, Q_X10_, Q_X11_⟩ hb_ hon hoff
                          refine ⟨_, rfl, fun K hK => ?_⟩
                          have e0 : a.tmps[0]? = some (.slice (some ad) l.length c) := by rw [ha]; exact (putSel_off rfl).trans rfl
                          replace ha := Aside0.mk ha
                          have TW := Aside0.mk (Q_TW (hoff 11 (by kernel_rfl)))
                          refine value_ (w1 := w') (v := .slice (some ad) l.length c) (by rfl) rfl ?_ ?_
                          · go_simp
                            (try simp only [i64_w])
                            try rfl
                          refine hK.out _ _ ⟨gb, A1, c1, m10_, m11_, (by rw [ha.out]; exact putSel_upk 3 hb_ rfl rfl rfl), Q_TW, fun h0_ _ => absurd ((hoff 10 (by kernel_rfl)).symm.trans h0_) (by decide), fun h0_ _ => absurd ((hoff 11 (by kernel_rfl)).symm.trans h0_) (by decide), fun h0_ => absurd ((hoff 12 (by kernel_rfl)).symm.trans h0_) (by decide), fun h0_ => absurd ((hoff 10 (by kernel_rfl)).symm.trans h0_) (by decide), fun h0_ => absurd ((hoff 11 (by kernel_rfl)).symm.trans h0_) (by decide)⟩
                        refine steps_cons ?_ ?_
                        · rintro b a w' ⟨gb, A1, c1, m10_, m11_, ha, Q_TW, Q_GB, Q_PW, Q_TZ, Q_X10_, Q_X11_⟩ hb_ hon hoff
                          refine ⟨_, rfl, fun K hK => ?_⟩
                          have e6 : a.tmps[6]? = some (.int .i64 (i : Int)) := by rw [ha]; exact (putSel_off rfl).trans rfl
                          replace ha := Aside0.mk ha
                          have TW := Aside0.mk (Q_TW (hoff 11 (by kernel_rfl)))
                          refine value_ (w1 := w') (v := .int .i64 (i : Int)) (by rfl) rfl ?_ ?_
                          · go_simp
                            (try simp only [i64_w])
                            try rfl
                          refine hK.out _ _ ⟨gb, A1, c1, m10_, m11_, (by rw [ha.out]; exact putSel_upk 4 hb_ rfl rfl rfl), Q_TW, fun h0_ _ => absurd ((hoff 10 (by kernel_rfl)).symm.trans h0_) (by decide), fun h0_ _ => absurd ((hoff 11 (by kernel_rfl)).symm.trans h0_) (by decide), fun h0_ => absurd ((hoff 12 (by kernel_rfl)).symm.trans h0_) (by decide), fun h0_ => absurd ((hoff 10 (by kernel_rfl)).symm.trans h0_) (by decide), fun h0_ => absurd ((hoff 11 (by kernel_rfl)).symm.trans h0_) (by decide)⟩
                        refine steps_cons ?_ ?_
                        · rintro b a w' ⟨gb, A1, c1, m10_, m11_, ha, Q_TW, Q_GB, Q_PW, Q_TZ, Q_X10_, Q_X11_⟩ hb_ hon hoff
                          refine ⟨_, rfl, fun K hK => ?_⟩
                          have e85 : a.tmps[85]? = some (.int .i64 (i : Int)) := by rw [ha]; exact putSel_on (e := (4, 85, .int .i64 (i : Int))) 4 rfl rfl (hon 4 (by kernel_rfl)) rfl
                          replace ha := Aside0.mk ha
                          have TW := Aside0.mk (Q_TW (hoff 11 (by kernel_rfl)))
                          refine value_ (w1 := w') (v := .int .i64 (j : Int)) (by rfl) rfl ?_ ?_
                          · go_simp
                            (try simp only [i64_w])
                            try rfl
                          refine hK.out _ _ ⟨gb, A1, c1, m10_, m11_, (by rw [ha.out]; exact putSel_upk 5 hb_ rfl rfl rfl), Q_TW, fun h0_ _ => absurd ((hoff 10 (by kernel_rfl)).symm.trans h0_) (by decide), fun h0_ _ => absurd ((hoff 11 (by kernel_rfl)).symm.trans h0_) (by decide), fun h0_ => absurd ((hoff 12 (by kernel_rfl)).symm.trans h0_) (by decide), fun h0_ => absurd ((hoff 10 (by kernel_rfl)).symm.trans h0_) (by decide), fun h0_ => absurd ((hoff 11 (by kernel_rfl)).symm.trans h0_) (by decide)⟩
                        refine steps_cons ?_ ?_
                        · rintro b a w' ⟨gb, A1, c1, m10_, m11_, ha, Q_TW, Q_GB, Q_PW, Q_TZ, Q_X10_, Q_X11_⟩ hb_ hon hoff
                          refine ⟨_, rfl, fun K hK => ?_⟩
                          have e84 : a.tmps[84]? = some (.slice (some ad) l.length c) := by rw [ha]; exact putSel_on (e := (3, 84, .slice (some ad) l.length c)) 3 rfl rfl (hon 3 (by kernel_rfl)) rfl
                          have e86 : a.tmps[86]? = some (.int .i64 (j : Int)) := by rw [ha]; exact putSel_on (e := (5, 86, .int .i64 (j : Int))) 5 rfl rfl (hon 5 (by kernel_rfl)) rfl
                          replace ha := Aside0.mk ha
                          have TW := Aside0.mk (Q_TW (hoff 11 (by kernel_rfl)))
                          refine value_ (w1 := w') (v := .pointer (some (ad.add (j * 5)))) (by rfl) rfl ?_ ?_
                          · go_simp
                            (try simp only [i64_w])
                            try rfl
                          refine hK.out _ _ ⟨gb, A1, c1, m10_, m11_, (by rw [ha.out]; exact putSel_upk 6 hb_ rfl rfl rfl), Q_TW, fun h0_ _ => absurd ((hoff 10 (by kernel_rfl)).symm.trans h0_) (by decide), fun h0_ _ => absurd ((hoff 11 (by kernel_rfl)).symm.trans h0_) (by decide), fun h0_ => absurd ((hoff 12 (by kernel_rfl)).symm.trans h0_) (by decide), fun h0_ => absurd ((hoff 10 (by kernel_rfl)).symm.trans h0_) (by decide), fun h0_ => absurd ((hoff 11 (by kernel_rfl)).symm.trans h0_) (by decide)⟩
                        refine steps_cons ?_ ?_
                        · rintro b a w' ⟨gb, A1, c1, m10_, m11_, ha, Q_TW, Q_GB, Q_PW, Q_TZ, Q_X10_, Q_X11_⟩ hb_ hon hoff
                          refine ⟨_, rfl, fun K hK => ?_⟩
                          have e87 : a.tmps[87]? = some (.pointer (some (ad.add (j * 5)))) := by rw [ha]; exact putSel_on (e := (6, 87, .pointer (some (ad.add (j * 5))))) 6 rfl rfl (hon 6 (by kernel_rfl)) rfl
                          replace ha := Aside0.mk ha
                          have TW := Aside0.mk (Q_TW (hoff 11 (by kernel_rfl)))
                          refine value_ (w1 := w') (v := .pointer (some ⟨(ad.add (j * 5)).block, (ad.add (j * 5)).off + 1, none⟩)) (by rfl) rfl ?_ ?_
                          · go_simp
                            (try simp only [i64_w])
                            try rfl
                          refine hK.out _ _ ⟨gb, A1, c1, m10_, m11_, (by rw [ha.out]; exact putSel_upk 7 hb_ rfl rfl rfl), Q_TW, fun h0_ _ => absurd ((hoff 10 (by kernel_rfl)).symm.trans h0_) (by decide), fun h0_ _ => absurd ((hoff 11 (by kernel_rfl)).symm.trans h0_) (by decide), fun h0_ => absurd ((hoff 12 (by kernel_rfl)).symm.trans h0_) (by decide), fun h0_ => absurd ((hoff 10 (by kernel_rfl)).symm.trans h0_) (by decide), fun h0_ => absurd ((hoff 11 (by kernel_rfl)).symm.trans h0_) (by decide)⟩
                        refine steps_cons ?_ ?_
                        · rintro b a w' ⟨gb, A1, c1, m10_, m11_, ha, Q_TW, Q_GB, Q_PW, Q_TZ, Q_X10_, Q_X11_⟩ hb_ hon hoff
                          refine ⟨_, rfl, fun K hK => ?_⟩
                          have e88 : a.tmps[88]? = some (.pointer (some ⟨(ad.add (j * 5)).block, (ad.add (j * 5)).off + 1, none⟩)) := by rw [ha]; exact putSel_on (e := (7, 88, .pointer (some ⟨(ad.add (j * 5)).block, (ad.add (j * 5)).off + 1, none⟩))) 7 rfl rfl (hon 7 (by kernel_rfl)) rfl
                          replace ha := Aside0.mk ha
                          have TW := Aside0.mk (Q_TW (hoff 11 (by kernel_rfl)))
                          have hc0_ : w'.cell? ⟨(ad.add (j * 5)).block, (ad.add (j * 5)).off + 1, none⟩ = some (.string pv.f1) := (HPV.out j HJ.out w' (HBW.out _ TW.out)).2.1
                          refine value_ (w1 := w') (v := .string pv.f1) (by rfl) rfl ?_ ?_
                          · go_simp
                            (try simp only [i64_w])
                            try rfl
                          refine hK.out _ _ ⟨gb, A1, c1, m10_, m11_, (by rw [ha.out]; exact putSel_upk 8 hb_ rfl rfl rfl), Q_TW, fun h0_ _ => absurd ((hoff 10 (by kernel_rfl)).symm.trans h0_) (by decide), fun h0_ _ => absurd ((hoff 11 (by kernel_rfl)).symm.trans h0_) (by decide), fun h0_ => absurd ((hoff 12 (by kernel_rfl)).symm.trans h0_) (by decide), fun h0_ => absurd ((hoff 10 (by kernel_rfl)).symm.trans h0_) (by decide), fun h0_ => absurd ((hoff 11 (by kernel_rfl)).symm.trans h0_) (by decide)⟩
                        refine steps_cons ?_ ?_
                        · rintro b a w' ⟨gb, A1, c1, m10_, m11_, ha, Q_TW, Q_GB, Q_PW, Q_TZ, Q_X10_, Q_X11_⟩ hb_ hon hoff
                          refine ⟨_, rfl, fun K hK => ?_⟩
                          have e83 : a.tmps[83]? = some (.int .i64 t.f4) := by rw [ha]; exact putSel_on (e := (2, 83, .int .i64 t.f4)) 2 rfl rfl (hon 2 (by kernel_rfl)) rfl
                          have e89 : a.tmps[89]? = some (.string pv.f1) := by rw [ha]; exact putSel_on (e := (8, 89, .string pv.f1)) 8 rfl rfl (hon 8 (by kernel_rfl)) rfl
                          replace ha := Aside0.mk ha
                          have TW := Aside0.mk (Q_TW (hoff 11 (by kernel_rfl)))
                          refine value_ (w1 := w') (v := .agg #[.int .i64 t.f4, .string pv.f1]) (by rfl) rfl ?_ ?_
                          · go_simp
                            (try simp only [i64_w])
                            try rfl
                          refine hK.out _ _ ⟨gb, A1, c1, m10_, m11_, (by rw [ha.out]; exact putSel_upk 9 hb_ rfl rfl rfl), Q_TW, fun h0_ _ => absurd ((hoff 10 (by kernel_rfl)).symm.trans h0_) (by decide), fun h0_ _ => absurd ((hoff 11 (by kernel_rfl)).symm.trans h0_) (by decide), fun h0_ => absurd ((hoff 12 (by kernel_rfl)).symm.trans h0_) (by decide), fun h0_ => absurd ((hoff 10 (by kernel_rfl)).symm.trans h0_) (by decide), fun h0_ => absurd ((hoff 11 (by kernel_rfl)).symm.trans h0_) (by decide)⟩
                        refine steps_cons ?_ ?_
                        · rintro b a w' ⟨gb, A1, c1, m10_, m11_, ha, Q_TW, Q_GB, Q_PW, Q_TZ, Q_X10_, Q_X11_⟩ hb_ hon hoff
                          refine ⟨_, rfl, fun K hK => ?_⟩
                          have e90 : a.tmps[90]? = some (.agg #[.int .i64 t.f4, .string pv.f1]) := by rw [ha]; exact putSel_on (e := (9, 90, .agg #[.int .i64 t.f4, .string pv.f1])) 9 rfl rfl (hon 9 (by kernel_rfl)) rfl
                          replace ha := Aside0.mk ha
                          have TW := Aside0.mk (Q_TW (hoff 11 (by kernel_rfl)))
                          refine value_ (w1 := w'.alloc (.cells #[.int .i64 t.f4, .string pv.f1] 48)) (v := .slice (some ⟨w'.heap.size, 0, none⟩) 1 1) (by rfl) rfl ?_ ?_
                          · go_simp
                          have hn_ : (w'.alloc (.cells #[.int .i64 t.f4, .string pv.f1] 48)).heap[w'.heap.size]? = some (.cells #[.int .i64 t.f4, .string pv.f1] 48) := blk_new _ _
                          have hbw_ : Below w'.heap.size w' (w'.alloc (.cells #[.int .i64 t.f4, .string pv.f1] 48)) := below_alloc (Below.refl _ _) _
                          obtain ⟨w2, hw2⟩ : ∃ w2, w2 = w'.alloc (.cells #[.int .i64 t.f4, .string pv.f1] 48) := ⟨_, rfl⟩
                          rw [← hw2]
                          rw [← hw2] at hn_ hbw_
                          refine hK.out _ _ ⟨w'.heap.size, A1, c1, (.slice (some ⟨w'.heap.size, 0, none⟩) 1 1), m11_, (by rw [ha.out]; exact putSel_upk 10 hb_ rfl rfl rfl), fun _ => (TW.out.up hbw_), fun _ _ => hn_, fun h0_ _ => absurd ((hoff 11 (by kernel_rfl)).symm.trans h0_) (by decide), fun h0_ => absurd ((hoff 12 (by kernel_rfl)).symm.trans h0_) (by decide), fun _ => rfl, fun h0_ => absurd ((hoff 11 (by kernel_rfl)).symm.trans h0_) (by decide)⟩
                        refine steps_cons ?_ ?_
                        · rintro b a w' ⟨gb, A1, c1, m10_, m11_, ha, Q_TW, Q_GB, Q_PW, Q_TZ, Q_X10_, Q_X11_⟩ hb_ hon hoff
                          refine ⟨_, rfl, fun K hK => ?_⟩
                          have e81 : a.tmps[81]? = some (.slice As ns cs) := by rw [ha]; exact putSel_on (e := (0, 81, .slice As ns cs)) 0 rfl rfl (hon 0 (by kernel_rfl)) rfl
                          have e91 : a.tmps[91]? = some (m10_) := by rw [ha]; exact putSel_on (e := (10, 91, m10_)) 10 rfl rfl (hon 10 (by kernel_rfl)) rfl
                          rw [Q_X10_ (hon 10 (by kernel_rfl))] at e91
                          replace ha := Aside0.mk ha
                          have TW := Aside0.mk (Q_TW hb_)
                          have GB := Aside0.mk (Q_GB (hon 10 (by kernel_rfl)) hb_)
                          refine app_ (by rfl) rfl (.tmp 81) (.tmp 91) 44 rfl pm.w0.heap.size 48 (.agg #[.int .i64 0, .string ⟨#[]⟩]) 2 24 Try.underlying44 info48 rfl (by decide) (.slice As ns cs) ns (st.flatMap cF) (eval_of e81) (by have h_ := TW.out.rS; rw [← HNS.out, hm.es] at h_; exact h_) ⟨gb, 0, none⟩ 1 1 (cF ((t.f4, pv.f1))) (eval_of e91) rfl (World.news_of_block GB.out) (cF_one _) (by have h_ := HLS.out; rw [← HNS.out] at h_; simp only [maxLen]; omega) (by have h_ := HLS.out; rw [← HNS.out] at h_; omega) TW.out.below.size ?_
                          intro v2_ w2 ho_ hg_ hat_
                          obtain ⟨A1_, c1_, rfl⟩ := own_slice ho_
                          refine hK.out _ _ ⟨gb, A1_, c1_, m10_, (.slice A1_ (ns + 1) c1_), (by rw [ha.out]; exact putSel_upk 11 hb_ rfl rfl rfl), fun h0_ => absurd ((up_self b 11).symm.trans h0_) (by decide), fun _ h1_ => absurd ((up_self b 11).symm.trans h1_) (by decide), fun _ _ => ⟨w', TW.out, by rw [← HNS.out, hm.es]; exact ho_, by rw [← HNS.out]; exact hg_, by rw [← HNS.out]; exact hat_⟩, fun h0_ => absurd ((hoff 12 (by kernel_rfl)).symm.trans h0_) (by decide), Q_X10_, fun _ => rfl⟩
                        refine steps_cons ?_ ?_
                        · rintro b a w' ⟨gb, A1, c1, m10_, m11_, ha, Q_TW, Q_GB, Q_PW, Q_TZ, Q_X10_, Q_X11_⟩ hb_ hon hoff
                          refine ⟨_, rfl, fun K hK => ?_⟩
                          have e4 : a.tmps[4]? = some (.pointer (some ⟨gs, 0, none⟩)) := by rw [ha]; exact (putSel_off rfl).trans rfl
                          have e92 : a.tmps[92]? = some (m11_) := by rw [ha]; exact putSel_on (e := (11, 92, m11_)) 11 rfl rfl (hon 11 (by kernel_rfl)) rfl
                          rw [Q_X11_ (hon 11 (by kernel_rfl))] at e92
                          replace ha := Aside0.mk ha
                          have PW := Aside0.mk (Q_PW (hon 11 (by kernel_rfl)) hb_)
                          have hf_ : w'.frozen? ⟨gs, 0, none⟩ = false := by have h_ := PW.out.home.free; rw [hm.hs] at h_; exact h_
                          have hc_ : w'.cell? ⟨gs, 0, none⟩ = some (.slice As st.length cs) := by have h_ := PW.out.home.cell; rw [hm.hs] at h_; exact h_
                          refine skip_ (w1 := w'.setCell ⟨gs, 0, none⟩ (.slice A1 (ns + 1) c1)) (by rfl) rfl ?_ ?_
                          · go_simp
                          refine hK.out _ _ ⟨gb, A1, c1, m10_, m11_, (by rw [ha.out]; exact putSel_none (v := undef) rfl), fun h0_ => absurd ((hon 11 (by kernel_rfl)).symm.trans h0_) (by decide), fun _ h1_ => absurd ((hon 11 (by kernel_rfl)).symm.trans h1_) (by decide), fun _ h1_ => absurd ((up_self b 12).symm.trans h1_) (by decide), fun _ => (by have h_ := PW.out.store; rw [hm.hs] at h_; exact h_), Q_X10_, Q_X11_⟩
                        exact steps_nil
                      rintro b a w9 hall ⟨gb, A1, c1, m10_, m11_, ha, Q_TW, Q_GB, Q_PW, Q_TZ, Q_X10_, Q_X11_⟩
                      have hb0_ := hall 0 (by kernel_rfl)
                      have hb1_ := hall 1 (by kernel_rfl)
                      have hb2_ := hall 2 (by kernel_rfl)
                      have hb3_ := hall 3 (by kernel_rfl)
                      have hb4_ := hall 4 (by kernel_rfl)
                      have hb5_ := hall 5 (by kernel_rfl)
                      have hb6_ := hall 6 (by kernel_rfl)
                      have hb7_ := hall 7 (by kernel_rfl)
                      have hb8_ := hall 8 (by kernel_rfl)
                      have hb9_ := hall 9 (by kernel_rfl)
                      have hb10_ := hall 10 (by kernel_rfl)
                      have hb11_ := hall 11 (by kernel_rfl)
                      have hb12_ := hall 12 (by kernel_rfl)
                      subst ha
                      obtain rfl := Q_X10_ hb10_
                      obtain rfl := Q_X11_ hb11_
                      simp only [putSel, hb0_, hb1_, hb2_, hb3_, hb4_, hb5_, hb6_, hb7_, hb8_, hb9_, hb10_, hb11_, hb12_, if_true, Act.put, List.setIfInBounds_toArray, List.set_cons_zero, List.set_cons_succ]
                      clear Q_TW
                      clear Q_GB
                      clear Q_PW
                      have TZ := Aside0.mk (Q_TZ hb12_)
                      clear Q_TZ
                      clear hall hb0_ hb1_ hb2_ hb3_ hb4_ hb5_ hb6_ hb7_ hb8_ hb9_ hb10_ hb11_ hb12_
                      have hI6 := Go.Lib.hid (show In p wr t ((t.f4, pv.f1) :: x.1).reverse (x.2 ++ [vt 6 t]) w9 from by
                        have h := TZ.out
                        rw [HPM.out, HST.out, HOU.out] at h
                        rw [List.reverse_cons]
                        exact h)
                      clear TZ HT_ HW_ hHeld H0 HBX HBW HNS HPM HST HOU hm HLS hI5
                      cases fi
                      all_goals go_wp2_with fail
                      all_goals go_meet
                      all_goals exact ⟨by rw [hf.out] <;> rfl, by rw [hf.out]; exact hI6⟩
                    | false =>
                      have hf := Go.Lib.hid (show y = ((x.1, x.2 ++ [vt 6 t] ++ [vt 7 t]), fi) by
                        have h1 := HDP.out
                        have h2 : ¬ (t.f0 ≠ 9 ∧ en < t.f4) := fun h => by
                          have h3 : (t.f0 != 9) = true := by simp [h.1]
                          rw [h3, decide_eq_true h.2] at h1
                          cases h1
                        rw [HO.out, if_neg (by decide), if_neg (by decide), if_neg h2])
                      go_wp2_with fail
                      obtain ⟨st, hste⟩ : ∃ st, st = x.1.reverse := ⟨_, rfl⟩
                      obtain ⟨out, houte⟩ : ∃ out, out = x.2 ++ [vt 6 t] := ⟨_, rfl⟩
                      obtain ⟨pm, hpm⟩ : ∃ pm, pm = p.more wr.heap.size (wr.alloc (tO t)) := ⟨_, rfl⟩
                      have HPM := Go.Lib.hid hpm
                      have HST := Go.Lib.hid hste
                      have HOU := Go.Lib.hid houte
                      have hm : Rfr pm go gs := by rw [hpm]; exact HM.out.more
                      have HL := Go.Lib.hid (show out.length < 1000000 by rw [houte, List.length_append, List.length_singleton]; have h1 := hZ.out; have h2 := HLT.out; have h3 := HG.out.le; unfold sz at h1; omega)
                      obtain ⟨As, cs, Ao, co, hT17⟩ := hI5.out
                      rw [← hste, ← houte, ← hpm] at hT17
                      have HBX := Go.Lib.hid (show ∀ W', Two pm As cs st Ao co out W' → W'.heap[wr.heap.size]? = some (tO t) from fun W' h => by
                        rw [hpm] at h; exact h.box (blk_new wr (tO t)))
                      obtain ⟨n, hn⟩ : ∃ n, n = out.length := ⟨_, rfl⟩
                      have HN := Go.Lib.hid hn
                      have H0 := Go.Lib.hid hT17.drew
                      clear hste houte hpm hT17 hn
                      refine start_ (n := 6) (S := fun w' => True) (ds := []) #[false, false, false, false, false, false] (by kernel_rfl) rfl rfl trivial (fun hHeld => ?_)
                      refine with_tabW lay.tab16 lay.bits16 (fun HT_ HW_ => ?_)
                      refine inv_at [0, 1, 2, 3, 4, 5] (fun a0_ b a w' => ∃ (gb : Nat) (A1 : Option Addr) (c1 : Nat) (m3_ : Value) (m4_ : Value), a = putSel a0_ b [(0, 99, .slice Ao n co), (1, 100, .agg #[.int .i64 t.f0, .string t.f1, .int .i64 t.f2, .int .i64 t.f3, .int .i64 t.f4]), (2, 101, .agg #[.int .i64 7, .string ⟨#[]⟩, .int .i64 0, .int .i64 t.f3, .int .i64 t.f4]), (3, 102, m3_), (4, 103, m4_)] ∧ (b 4 = false → Two pm As cs st Ao co out w') ∧ (b 3 = true → b 4 = false → w'.heap[gb]? = some (.cells #[.int .i64 7, .string ⟨#[]⟩, .int .i64 0, .int .i64 t.f3, .int .i64 t.f4] 27)) ∧ (b 4 = true → b 5 = false → PendO pm As cs st Ao co out ((vt 7 t)) (.slice A1 (n + 1) c1) w') ∧ (b 5 = true → TwoE pm st (out ++ [(vt 7 t)]) w') ∧ (b 3 = true → (m3_ : Value) = .slice (some ⟨gb, 0, none⟩) 1 1) ∧ (b 4 = true → (m4_ : Value) = .slice A1 (n + 1) c1)) HT_.out HW_.out (by kernel_rfl) (by kernel_rfl) ?_ ?_ ?_
                      · exact ⟨0, none, 0, .bool false, .bool false, by simp only [putSel, Bool.false_eq_true, if_false], fun _ => H0.out, fun h_ => absurd h_ (by decide), fun h_ => absurd h_ (by decide), fun h_ => absurd h_ (by decide), fun h_ => absurd h_ (by decide), fun h_ => absurd h_ (by decide)⟩
                      · skip
                        refine steps_cons ?_ ?_
                        · rintro b a w' ⟨gb, A1, c1, m3_, m4_, ha, Q_TW, Q_GB, Q_PW, Q_TZ, Q_X3_, Q_X4_⟩ hb_ hon hoff
                          refine ⟨_, rfl, fun K hK => ?_⟩
                          have e3 : a.tmps[3]? = some (.pointer (some ⟨go, 0, none⟩)) := by rw [ha]; exact (putSel_off rfl).trans rfl
                          replace ha := Aside0.mk ha
                          have TW := Aside0.mk (Q_TW (hoff 4 (by kernel_rfl)))
                          have hc0_ : w'.cell? ⟨go, 0, none⟩ = some (.slice Ao n co) := (by have h_ := TW.out.cO; rw [hm.ho, ← HN.out] at h_; exact h_)
                          refine value_ (w1 := w') (v := .slice Ao n co) (by rfl) rfl ?_ ?_
                          · go_simp
                            (try simp only [i64_w])
                            try rfl
                          refine hK.out _ _ ⟨gb, A1, c1, m3_, m4_, (by rw [ha.out]; exact putSel_upk 0 hb_ rfl rfl rfl), Q_TW, Q_GB, fun h0_ _ => absurd ((hoff 4 (by kernel_rfl)).symm.trans h0_) (by decide), fun h0_ => absurd ((hoff 5 (by kernel_rfl)).symm.trans h0_) (by decide), Q_X3_, fun h0_ => absurd ((hoff 4 (by kernel_rfl)).symm.trans h0_) (by decide)⟩
                        refine steps_cons ?_ ?_
                        · rintro b a w' ⟨gb, A1, c1, m3_, m4_, ha, Q_TW, Q_GB, Q_PW, Q_TZ, Q_X3_, Q_X4_⟩ hb_ hon hoff
                          refine ⟨_, rfl, fun K hK => ?_⟩
                          have e7 : a.tmps[7]? = some (.pointer (some ⟨wr.heap.size, 0, none⟩)) := by rw [ha]; exact (putSel_off rfl).trans rfl
                          replace ha := Aside0.mk ha
                          have TW := Aside0.mk (Q_TW (hoff 4 (by kernel_rfl)))
                          have hc0_ : w'.cell? ⟨wr.heap.size, 0, none⟩ = some (.int .i64 t.f0) := (blk_cell (HBX.out _ TW.out) 0).trans rfl
                          have hc1_ : w'.cell? ⟨wr.heap.size, 1, none⟩ = some (.string t.f1) := (blk_cell (HBX.out _ TW.out) 1).trans rfl
                          have hc2_ : w'.cell? ⟨wr.heap.size, 2, none⟩ = some (.int .i64 t.f2) := (blk_cell (HBX.out _ TW.out) 2).trans rfl
                          have hc3_ : w'.cell? ⟨wr.heap.size, 3, none⟩ = some (.int .i64 t.f3) := (blk_cell (HBX.out _ TW.out) 3).trans rfl
                          have hc4_ : w'.cell? ⟨wr.heap.size, 4, none⟩ = some (.int .i64 t.f4) := (blk_cell (HBX.out _ TW.out) 4).trans rfl
                          refine value_ (w1 := w') (v := .agg #[.int .i64 t.f0, .string t.f1, .int .i64 t.f2, .int .i64 t.f3, .int .i64 t.f4]) (by rfl) rfl ?_ ?_
                          · go_simp
                            (try simp only [i64_w])
                            try rfl
                          refine hK.out _ _ ⟨gb, A1, c1, m3_, m4_, (by rw [ha.out]; exact putSel_upk 1 hb_ rfl rfl rfl), Q_TW, fun h0_ _ => absurd ((hoff 3 (by kernel_rfl)).symm.trans h0_) (by decide), fun h0_ _ => absurd ((hoff 4 (by kernel_rfl)).symm.trans h0_) (by decide), fun h0_ => absurd ((hoff 5 (by kernel_rfl)).symm.trans h0_) (by decide), fun h0_ => absurd ((hoff 3 (by kernel_rfl)).symm.trans h0_) (by decide), fun h0_ => absurd ((hoff 4 (by kernel_rfl)).symm.trans h0_) (by decide)⟩
                        refine steps_cons ?_ ?_
                        · rintro b a w' ⟨gb, A1, c1, m3_, m4_, ha, Q_TW, Q_GB, Q_PW, Q_TZ, Q_X3_, Q_X4_⟩ hb_ hon hoff
                          refine ⟨_, rfl, fun K hK => ?_⟩
                          have e100 : a.tmps[100]? = some (.agg #[.int .i64 t.f0, .string t.f1, .int .i64 t.f2, .int .i64 t.f3, .int .i64 t.f4]) := by rw [ha]; exact putSel_on (e := (1, 100, .agg #[.int .i64 t.f0, .string t.f1, .int .i64 t.f2, .int .i64 t.f3, .int .i64 t.f4])) 1 rfl rfl (hon 1 (by kernel_rfl)) rfl
                          replace ha := Aside0.mk ha
                          have TW := Aside0.mk (Q_TW (hoff 4 (by kernel_rfl)))
                          refine goesF_ Try.func18 (by kernel_rfl) rfl #[.int .i64 7, .agg #[.int .i64 t.f0, .string t.f1, .int .i64 t.f2, .int .i64 t.f3, .int .i64 t.f4]] (by rfl) rfl rfl (by first | (simp only [List.map_toArray, List.map_cons, List.map_nil, Act.eval, Array.getD_eq_getD_getElem?, Option.getD_some, e100]; done) | (simp only [List.map_toArray, List.map_cons, List.map_nil, Act.eval, Array.getD_eq_getD_getElem?, Option.getD_some, e100]; rfl)) ?_
                          refine (virt_calls 7 t _).mono ?_
                          rintro e_ w2 ⟨rfl, hbw_⟩
                          refine ⟨_, rfl, ?_⟩
                          refine hK.out _ _ ⟨gb, A1, c1, m3_, m4_, (by rw [ha.out]; exact putSel_upk 2 hb_ rfl rfl rfl), fun _ => (TW.out.up hbw_), fun h0_ _ => absurd ((hoff 3 (by kernel_rfl)).symm.trans h0_) (by decide), fun h0_ _ => absurd ((hoff 4 (by kernel_rfl)).symm.trans h0_) (by decide), fun h0_ => absurd ((hoff 5 (by kernel_rfl)).symm.trans h0_) (by decide), fun h0_ => absurd ((hoff 3 (by kernel_rfl)).symm.trans h0_) (by decide), fun h0_ => absurd ((hoff 4 (by kernel_rfl)).symm.trans h0_) (by decide)⟩
                        refine steps_cons ?_ ?_
                        · rintro b a w' ⟨gb, A1, c1, m3_, m4_, ha, Q_TW, Q_GB, Q_PW, Q_TZ, Q_X3_, Q_X4_⟩ hb_ hon hoff
                          refine ⟨_, rfl, fun K hK => ?_⟩
                          have e101 : a.tmps[101]? = some (.agg #[.int .i64 7, .string ⟨#[]⟩, .int .i64 0, .int .i64 t.f3, .int .i64 t.f4]) := by rw [ha]; exact putSel_on (e := (2, 101, .agg #[.int .i64 7, .string ⟨#[]⟩, .int .i64 0, .int .i64 t.f3, .int .i64 t.f4])) 2 rfl rfl (hon 2 (by kernel_rfl)) rfl
                          replace ha := Aside0.mk ha
                          have TW := Aside0.mk (Q_TW (hoff 4 (by kernel_rfl)))
                          refine value_ (w1 := w'.alloc (.cells #[.int .i64 7, .string ⟨#[]⟩, .int .i64 0, .int .i64 t.f3, .int .i64 t.f4] 27)) (v := .slice (some ⟨w'.heap.size, 0, none⟩) 1 1) (by rfl) rfl ?_ ?_
                          · go_simp
                          have hn_ : (w'.alloc (.cells #[.int .i64 7, .string ⟨#[]⟩, .int .i64 0, .int .i64 t.f3, .int .i64 t.f4] 27)).heap[w'.heap.size]? = some (.cells #[.int .i64 7, .string ⟨#[]⟩, .int .i64 0, .int .i64 t.f3, .int .i64 t.f4] 27) := blk_new _ _
                          have hbw_ : Below w'.heap.size w' (w'.alloc (.cells #[.int .i64 7, .string ⟨#[]⟩, .int .i64 0, .int .i64 t.f3, .int .i64 t.f4] 27)) := below_alloc (Below.refl _ _) _
                          obtain ⟨w2, hw2⟩ : ∃ w2, w2 = w'.alloc (.cells #[.int .i64 7, .string ⟨#[]⟩, .int .i64 0, .int .i64 t.f3, .int .i64 t.f4] 27) := ⟨_, rfl⟩
                          rw [← hw2]
                          rw [← hw2] at hn_ hbw_
                          refine hK.out _ _ ⟨w'.heap.size, A1, c1, (.slice (some ⟨w'.heap.size, 0, none⟩) 1 1), m4_, (by rw [ha.out]; exact putSel_upk 3 hb_ rfl rfl rfl), fun _ => (TW.out.up hbw_), fun _ _ => hn_, fun h0_ _ => absurd ((hoff 4 (by kernel_rfl)).symm.trans h0_) (by decide), fun h0_ => absurd ((hoff 5 (by kernel_rfl)).symm.trans h0_) (by decide), fun _ => rfl, fun h0_ => absurd ((hoff 4 (by kernel_rfl)).symm.trans h0_) (by decide)⟩
                        refine steps_cons ?_ ?_
                        · rintro b a w' ⟨gb, A1, c1, m3_, m4_, ha, Q_TW, Q_GB, Q_PW, Q_TZ, Q_X3_, Q_X4_⟩ hb_ hon hoff
                          refine ⟨_, rfl, fun K hK => ?_⟩
                          have e99 : a.tmps[99]? = some (.slice Ao n co) := by rw [ha]; exact putSel_on (e := (0, 99, .slice Ao n co)) 0 rfl rfl (hon 0 (by kernel_rfl)) rfl
                          have e102 : a.tmps[102]? = some (m3_) := by rw [ha]; exact putSel_on (e := (3, 102, m3_)) 3 rfl rfl (hon 3 (by kernel_rfl)) rfl
                          rw [Q_X3_ (hon 3 (by kernel_rfl))] at e102
                          replace ha := Aside0.mk ha
                          have TW := Aside0.mk (Q_TW hb_)
                          have GB := Aside0.mk (Q_GB (hon 3 (by kernel_rfl)) hb_)
                          refine app_ (by rfl) rfl (.tmp 99) (.tmp 102) 22 rfl pm.w0.heap.size 27 (.agg #[.int .i64 0, .string ⟨#[]⟩, .int .i64 0, .int .i64 0, .int .i64 0]) 5 48 Try.underlying22 info27 rfl (by decide) (.slice Ao n co) n (out.flatMap cT) (eval_of e99) (by have h_ := TW.out.rO; rw [← HN.out] at h_; exact h_) ⟨gb, 0, none⟩ 1 1 (cT ((vt 7 t))) (eval_of e102) rfl (World.news_of_block GB.out) (cT_one _) (by have h_ := HL.out; rw [← HN.out] at h_; simp only [maxLen]; omega) (by have h_ := HL.out; rw [← HN.out] at h_; omega) TW.out.below.size ?_
                          intro v2_ w2 ho_ hg_ hat_
                          obtain ⟨A1_, c1_, rfl⟩ := own_slice ho_
                          refine hK.out _ _ ⟨gb, A1_, c1_, m3_, (.slice A1_ (n + 1) c1_), (by rw [ha.out]; exact putSel_upk 4 hb_ rfl rfl rfl), fun h0_ => absurd ((up_self b 4).symm.trans h0_) (by decide), fun _ h1_ => absurd ((up_self b 4).symm.trans h1_) (by decide), fun _ _ => ⟨w', TW.out, by rw [← HN.out]; exact ho_, by rw [← HN.out]; exact hg_, by rw [← HN.out]; exact hat_⟩, fun h0_ => absurd ((hoff 5 (by kernel_rfl)).symm.trans h0_) (by decide), Q_X3_, fun _ => rfl⟩
                        refine steps_cons ?_ ?_
                        · rintro b a w' ⟨gb, A1, c1, m3_, m4_, ha, Q_TW, Q_GB, Q_PW, Q_TZ, Q_X3_, Q_X4_⟩ hb_ hon hoff
                          refine ⟨_, rfl, fun K hK => ?_⟩
                          have e3 : a.tmps[3]? = some (.pointer (some ⟨go, 0, none⟩)) := by rw [ha]; exact (putSel_off rfl).trans rfl
                          have e103 : a.tmps[103]? = some (m4_) := by rw [ha]; exact putSel_on (e := (4, 103, m4_)) 4 rfl rfl (hon 4 (by kernel_rfl)) rfl
                          rw [Q_X4_ (hon 4 (by kernel_rfl))] at e103
                          replace ha := Aside0.mk ha
                          have PW := Aside0.mk (Q_PW (hon 4 (by kernel_rfl)) hb_)
                          have hf_ : w'.frozen? ⟨go, 0, none⟩ = false := by have h_ := PW.out.home.free; rw [hm.ho] at h_; exact h_
                          have hc_ : w'.cell? ⟨go, 0, none⟩ = some (.slice Ao out.length co) := by have h_ := PW.out.home.cell; rw [hm.ho] at h_; exact h_
                          refine skip_ (w1 := w'.setCell ⟨go, 0, none⟩ (.slice A1 (n + 1) c1)) (by rfl) rfl ?_ ?_
                          · go_simp
                          refine hK.out _ _ ⟨gb, A1, c1, m3_, m4_, (by rw [ha.out]; exact putSel_none (v := undef) rfl), fun h0_ => absurd ((hon 4 (by kernel_rfl)).symm.trans h0_) (by decide), fun _ h1_ => absurd ((hon 4 (by kernel_rfl)).symm.trans h1_) (by decide), fun _ h1_ => absurd ((up_self b 5).symm.trans h1_) (by decide), fun _ => (by have h_ := PW.out.store; rw [hm.ho] at h_; exact h_), Q_X3_, Q_X4_⟩
                        exact steps_nil
                      rintro b a w9 hall ⟨gb, A1, c1, m3_, m4_, ha, Q_TW, Q_GB, Q_PW, Q_TZ, Q_X3_, Q_X4_⟩
                      have hb0_ := hall 0 (by kernel_rfl)
                      have hb1_ := hall 1 (by kernel_rfl)
                      have hb2_ := hall 2 (by kernel_rfl)
                      have hb3_ := hall 3 (by kernel_rfl)
                      have hb4_ := hall 4 (by kernel_rfl)
                      have hb5_ := hall 5 (by kernel_rfl)
                      subst ha
                      obtain rfl := Q_X3_ hb3_
                      obtain rfl := Q_X4_ hb4_
                      simp only [putSel, hb0_, hb1_, hb2_, hb3_, hb4_, hb5_, if_true, Act.put, List.setIfInBounds_toArray, List.set_cons_zero, List.set_cons_succ]
                      clear Q_TW
                      clear Q_GB
                      clear Q_PW
                      have TZ := Aside0.mk (Q_TZ hb5_)
                      clear Q_TZ
                      clear hall hb0_ hb1_ hb2_ hb3_ hb4_ hb5_
                      have hI6 := Go.Lib.hid (show In p wr t x.1.reverse (x.2 ++ [vt 6 t] ++ [vt 7 t]) w9 from by
                        have h := TZ.out
                        rw [HPM.out, HST.out, HOU.out] at h
                        exact h)
                      clear TZ HT_ HW_ hHeld H0 HBX HN HPM HST HOU hm HL hI5 Q_X3_ Q_X4_
                      cases fi
                      all_goals go_wp2_with fail
                      all_goals go_meet
                      all_goals exact ⟨by rw [hf.out] <;> rfl, by rw [hf.out]; exact hI6⟩
          case rest =>
            obtain ⟨rfl, hI3⟩ := hcut
            clear HIJ HO hI2
            obtain ⟨z, fb⟩ := y
            have HS : Hid (goL l gk i x = if t.f0 = 9 then z.2 ++ List.replicate (opens z.1) (vt 7 t) ++ [t] else goL l (gk - 1) (i + 1) (restL fb t z)) := HS
            have HSZ : Hid (sz z ≤ sz x + 2) := HSZ
            obtain ⟨pm, hpm⟩ : ∃ pm, pm = p.more wr.heap.size (wr.alloc (tO t)) := ⟨_, rfl⟩
            have hI3 : Hid (TwoE pm z.1.reverse z.2 wc) := by rw [hpm]; exact hI3
            have HBD := Go.Lib.hid (show sz z ≤ 46000 from by have h1 := HSZ.out; have h2 := hZ.out; have h3 := HLT.out; have h4 := HG.out.le; omega)
            have HDN := Go.Lib.hid (show ∀ st out W, TwoE pm st out W → TwoE p st out W from fun st out W h => In.done (t := t) hT.out (by rw [hpm] at h; exact h))
            have hwp : pm.w0 = w := by rw [hpm]; exact HP0.out
            have HWP := Go.Lib.hid hwp
            have HBX := Go.Lib.hid (show ∀ As cs st Ao co out W', Two pm As cs st Ao co out W' → W'.heap[wr.heap.size]? = some (tO t) from fun As cs st Ao co out W' h => by
              rw [hpm] at h; exact h.box (blk_new wr (tO t)))
            have HMM := Go.Lib.hid (show Rfr pm go gs by rw [hpm]; exact HM.out.more)
            clear HPV HR hI1 hpm hT hwp hbw
            generalize wr.heap.size = bt at *
            by_cases hk9 : t.f0 = 9
            · have hk9' : (t.f0 == 9) = true := beq_iff_eq.mpr hk9
              have HF := Go.Lib.hid (show layL l = z.2 ++ List.replicate (opens z.1) (vt 7 t) ++ [t] by rw [← hS.out, HS.out, if_pos hk9])
              clear hk9
              obtain ⟨As, cs, Ao, co, hT3⟩ := hI3.out
              have b0 := (box_of (HBX.out _ _ _ _ _ _ _ hT3)).c0
              obtain ⟨st, hste⟩ : ∃ st, st = z.1.reverse := ⟨_, rfl⟩
              rw [← hste] at hT3
              obtain ⟨ns, hns⟩ : ∃ ns, ns = st.length := ⟨_, rfl⟩
              have c0 : wc.cell? ⟨gs, 0, none⟩ = some (.slice As ns cs) := by have h_ := hT3.cS; rw [HMM.out.hs, ← hns] at h_; exact h_
              have HT3 := Go.Lib.hid hT3
              have HST := Go.Lib.hid hste
              have HNS := Go.Lib.hid hns
              have hns1 : (ns : Int) ≤ 46000 := by rw [hns, hste, List.length_reverse]; have h1 := HBD.out; unfold sz at h1; omega
              have HOP0 := Go.Lib.hid (show opens z.1 = opens (st.take ns) by rw [hns, List.take_length, hste]; exact opens_rev _)
              clear hT3 hste hns hI3 HS hS
              go_wp2_with fail
              clear c0 b0
              go_loopg [11, 118] ns (fun k v11 v118 wx => ∃ j : Nat, Hid (j + k = ns) ∧ v118 = .int .i64 j ∧ v11 = .int .i64 (opens (st.take j) : Nat) ∧ Hid (Two pm As cs st Ao co z.2 wx))
              case atStart => exact ⟨0, Go.Lib.hid (by omega), rfl, rfl, HT3⟩
              case round =>
                clear HT3
                obtain ⟨j, hj, rfl, rfl, hT4⟩ := hrel
                have HOL := Go.Lib.hid (show opens (st.take j) ≤ j from Nat.le_trans (opens_le _) (by rw [List.length_take]; omega))
                by_cases hjl : j < ns
                · have hjl' : (j : Int) < (ns : Int) := by omega
                  have hj0 : (0 : Int) ≤ (j : Int) := by omega
                  obtain ⟨y, hy⟩ : ∃ y, st[j]? = some y := ⟨_, List.getElem?_eq_getElem (by rw [← HNS.out]; exact hjl)⟩
                  obtain ⟨ad2, rfl, y0, y1⟩ := (hT4.out.rdG (by rw [← HNS.out]; omega)).at_ hy
                  have HY := Go.Lib.hid (opens_take hy)
                  have HJL := Go.Lib.hid hjl
                  clear hy hjl
                  by_cases h0 : 0 < y.1
                  · have h0' : decide (0 < y.1) = true := decide_eq_true h0
                    have h0'' : decide (y.1 > 0) = true := decide_eq_true h0
                    have HYY := Go.Lib.hid (show opens (st.take (j + 1)) = opens (st.take j) + 1 by rw [HY.out, if_pos h0])
                    clear h0
                    go_wp2_with fail
                    go_roundg (gk - 1)
                    case measure => have := hj.out; have := HJL.out; omega
                    case rel =>
                      exact ⟨j + 1, Go.Lib.hid (by have := hj.out; have := HJL.out; omega), by go_num, by rw [HYY.out]; have h1 := HOL.out; have h2 := HJL.out; congr 1; unfold wrap64; omega, Go.Lib.hid (hT4.out.up (below_alloc (Below.refl _ _) _))⟩
                  · have h0' : decide (0 < y.1) = false := decide_eq_false h0
                    have h0'' : decide (y.1 > 0) = false := decide_eq_false h0
                    have HYY := Go.Lib.hid (show opens (st.take (j + 1)) = opens (st.take j) by rw [HY.out, if_neg h0]; rfl)
                    clear h0
                    go_wp2_with fail
                    go_roundg (gk - 1)
                    case measure => have := hj.out; have := HJL.out; omega
                    case rel =>
                      exact ⟨j + 1, Go.Lib.hid (by have := hj.out; have := HJL.out; omega), by go_num, by rw [HYY.out], Go.Lib.hid (hT4.out.up (below_alloc (Below.refl _ _) _))⟩
                · have hjl' : ¬ (j : Int) < (ns : Int) := by omega
                  have hjd : decide ((j : Int) < (ns : Int)) = false := decide_eq_false (by omega)
                  have hjd2 : decide (j < ns) = false := decide_eq_false (by omega)
                  have hjn : j = ns := by have := hj.out; omega
                  have HJO := Go.Lib.hid (show opens (st.take j) = opens z.1 by rw [hjn]; exact HOP0.out.symm)
                  have HT5 := Go.Lib.hid (show TwoE pm st z.2 wr from ⟨_, _, _, _, hT4.out⟩)
                  have HON := Go.Lib.hid (show opens z.1 ≤ 46000 by rw [← HJO.out]; have h1 := HOL.out; omega)
                  rw [HJO.out]
                  generalize opens z.1 = N at *
                  clear hjl hjn hT4 HOL HJO HOP0 hj
                  go_wp2_with fail
                  go_loopg [11] N (fun k v11 wx => ∃ out, v11 = .int .i64 k ∧ Hid (k ≤ N) ∧ Hid (out = z.2 ++ List.replicate (N - k) (vt 7 t)) ∧ Hid (TwoE pm st out wx))
                  case atStart => exact ⟨_, rfl, Go.Lib.hid (Nat.le_refl _), Go.Lib.hid (by simp), HT5⟩
                  case round =>
                    obtain ⟨out, rfl, hk, ho, hT6⟩ := hrel
                    clear HT5
                    cases gk with
                    | zero =>
                      obtain ⟨As2, cs2, Ao2, co2, hT7⟩ := hT6.out
                      have ⟨d0, d1, d2, d3, d4⟩ := box_of (HBX.out _ _ _ _ _ _ _ hT7)
                      obtain ⟨n, hn⟩ : ∃ n, n = out.length := ⟨_, rfl⟩
                      have c0 : wr.cell? ⟨go, 0, none⟩ = some (.slice Ao2 n co2) := by have h_ := hT7.cO; rw [HMM.out.ho, ← hn] at h_; exact h_
                      have hrO := Go.Lib.hid (show wr.ownsRow pm.w0.heap.size 27 5 (.slice Ao2 n co2) n (out.flatMap cT) from by have h_ := hT7.rO; rw [← hn] at h_; exact h_)
                      have hbl := Go.Lib.hid hT7.below
                      have hn2 : n < 1000000 := by have h1 := congrArg List.length ho.out; rw [← hn, List.length_append, List.length_replicate] at h1; have h2 := HBD.out; have h3 := HON.out; unfold sz at h2; omega
                      have HLL := Go.Lib.hid (show layL l = out ++ [t] by rw [HF.out, ho.out]; simp)
                      have hnl := Go.Lib.hid (show n + 1 = (layL l).length by rw [HLL.out, hn]; simp)
                      clear hn hT7 hT6
                      go_wp2_with ((with_reducible refine gate_builtin (b := .append) (xs := #[.tmp 137, .tmp 139]) rfl ?_); at_builtin; refine print_append_cells (w0 := pm.w0) pm.w0.heap.size rfl (.tmp 137) (.tmp 139) 22 27 (.agg #[.int .i64 0, .string ⟨#[]⟩, .int .i64 0, .int .i64 0, .int .i64 0]) 5 48 rfl Try.underlying22 info27 rfl (by decide) (by decide) (.slice Ao2 n co2) n (out.flatMap cT) (cT t) rfl (by first | rfl | (go_simp; done) | (go_simp; rfl)) rfl ?q0 ?q1 ?q2 ?q3 ?q4 ?_; (case q0 => exact cT_one _); (case q1 => exact hrO.out); (case q2 => exact hbl.out); (case q3 => exact hbl.out.size); (case q4 => omega); intro v1 w11 ho9 hb9 hg9 hat9; obtain ⟨A9, c9, rfl⟩ := own_slice ho9; have HRES := Go.Lib.hid (And.intro ho9 hb9); clear ho9 hb9 hg9 hat9)
                      go_ret
                      rw [hnl.out] at HRES ⊢
                      rw [HWP.out] at HRES
                      refine ⟨⟨_, _, rfl, ?_⟩, HRES.out.2⟩
                      have h1 := HRES.out.1
                      rw [HLL.out]
                      rw [HLL.out] at h1
                      simpa using h1
                    | succ k =>
                      go_wp2_with fail
                      obtain ⟨As, cs, Ao, co, hT17⟩ := hT6.out
                      have HBX := Go.Lib.hid (show ∀ W', Two pm As cs st Ao co out W' → W'.heap[bt]? = some (tO t) from fun W' h => HBX.out _ _ _ _ _ _ _ h)
                      obtain ⟨n, hn⟩ : ∃ n, n = out.length := ⟨_, rfl⟩
                      have HN := Go.Lib.hid hn
                      have H0 := Go.Lib.hid hT17.drew
                      have hm := HMM.out
                      have HL := Go.Lib.hid (show out.length < 1000000 by have h1 := congrArg List.length ho.out; rw [List.length_append, List.length_replicate] at h1; have h2 := HBD.out; have h3 := HON.out; unfold sz at h2; omega)
                      clear hT6 hn hT17
                      refine start_ (n := 6) (S := fun w' => True) (ds := []) #[false, false, false, false, false, false] (by kernel_rfl) rfl rfl trivial (fun hHeld => ?_)
                      refine with_tabW lay.tab28 lay.bits28 (fun HT_ HW_ => ?_)
                      refine inv_at [0, 1, 2, 3, 4, 5] (fun a0_ b a w' => ∃ (gb : Nat) (A1 : Option Addr) (c1 : Nat) (m3_ : Value) (m4_ : Value), a = putSel a0_ b [(0, 132, .slice Ao n co), (1, 133, .agg #[.int .i64 t.f0, .string t.f1, .int .i64 t.f2, .int .i64 t.f3, .int .i64 t.f4]), (2, 134, .agg #[.int .i64 7, .string ⟨#[]⟩, .int .i64 0, .int .i64 t.f3, .int .i64 t.f4]), (3, 135, m3_), (4, 136, m4_)] ∧ (b 4 = false → Two pm As cs st Ao co out w') ∧ (b 3 = true → b 4 = false → w'.heap[gb]? = some (.cells #[.int .i64 7, .string ⟨#[]⟩, .int .i64 0, .int .i64 t.f3, .int .i64 t.f4] 27)) ∧ (b 4 = true → b 5 = false → PendO pm As cs st Ao co out ((vt 7 t)) (.slice A1 (n + 1) c1) w') ∧ (b 5 = true → TwoE pm st (out ++ [(vt 7 t)]) w') ∧ (b 3 = true → (m3_ : Value) = .slice (some ⟨gb, 0, none⟩) 1 1) ∧ (b 4 = true → (m4_ : Value) = .slice A1 (n + 1) c1)) HT_.out HW_.out (by kernel_rfl) (by kernel_rfl) ?_ ?_ ?_
                      · exact ⟨0, none, 0, .bool false, .bool false, by simp only [putSel, Bool.false_eq_true, if_false], fun _ => H0.out, fun h_ => absurd h_ (by decide), fun h_ => absurd h_ (by decide), fun h_ => absurd h_ (by decide), fun h_ => absurd h_ (by decide), fun h_ => absurd h_ (by decide)⟩
                      · skip
                        refine steps_cons ?_ ?_
                        · rintro b a w' ⟨gb, A1, c1, m3_, m4_, ha, Q_TW, Q_GB, Q_PW, Q_TZ, Q_X3_, Q_X4_⟩ hb_ hon hoff
                          refine ⟨_, rfl, fun K hK => ?_⟩
                          have e3 : a.tmps[3]? = some (.pointer (some ⟨go, 0, none⟩)) := by rw [ha]; exact (putSel_off rfl).trans rfl
                          replace ha := Aside0.mk ha
                          have TW := Aside0.mk (Q_TW (hoff 4 (by kernel_rfl)))
                          have hc0_ : w'.cell? ⟨go, 0, none⟩ = some (.slice Ao n co) := (by have h_ := TW.out.cO; rw [hm.ho, ← HN.out] at h_; exact h_)
                          refine value_ (w1 := w') (v := .slice Ao n co) (by rfl) rfl ?_ ?_
                          · go_simp
                            (try simp only [i64_w])
                            try rfl
                          refine hK.out _ _ ⟨gb, A1, c1, m3_, m4_, (by rw [ha.out]; exact putSel_upk 0 hb_ rfl rfl rfl), Q_TW, Q_GB, fun h0_ _ => absurd ((hoff 4 (by kernel_rfl)).symm.trans h0_) (by decide), fun h0_ => absurd ((hoff 5 (by kernel_rfl)).symm.trans h0_) (by decide), Q_X3_, fun h0_ => absurd ((hoff 4 (by kernel_rfl)).symm.trans h0_) (by decide)⟩
                        refine steps_cons ?_ ?_
                        · rintro b a w' ⟨gb, A1, c1, m3_, m4_, ha, Q_TW, Q_GB, Q_PW, Q_TZ, Q_X3_, Q_X4_⟩ hb_ hon hoff
                          refine ⟨_, rfl, fun K hK => ?_⟩
                          have e7 : a.tmps[7]? = some (.pointer (some ⟨bt, 0, none⟩)) := by rw [ha]; exact (putSel_off rfl).trans rfl
                          replace ha := Aside0.mk ha
                          have TW := Aside0.mk (Q_TW (hoff 4 (by kernel_rfl)))
                          have hc0_ : w'.cell? ⟨bt, 0, none⟩ = some (.int .i64 t.f0) := (blk_cell (HBX.out _ TW.out) 0).trans rfl
                          have hc1_ : w'.cell? ⟨bt, 1, none⟩ = some (.string t.f1) := (blk_cell (HBX.out _ TW.out) 1).trans rfl
                          have hc2_ : w'.cell? ⟨bt, 2, none⟩ = some (.int .i64 t.f2) := (blk_cell (HBX.out _ TW.out) 2).trans rfl
                          have hc3_ : w'.cell? ⟨bt, 3, none⟩ = some (.int .i64 t.f3) := (blk_cell (HBX.out _ TW.out) 3).trans rfl
                          have hc4_ : w'.cell? ⟨bt, 4, none⟩ = some (.int .i64 t.f4) := (blk_cell (HBX.out _ TW.out) 4).trans rfl
                          refine value_ (w1 := w') (v := .agg #[.int .i64 t.f0, .string t.f1, .int .i64 t.f2, .int .i64 t.f3, .int .i64 t.f4]) (by rfl) rfl ?_ ?_
                          · go_simp
                            (try simp only [i64_w])
                            try rfl
                          refine hK.out _ _ ⟨gb, A1, c1, m3_, m4_, (by rw [ha.out]; exact putSel_upk 1 hb_ rfl rfl rfl), Q_TW, fun h0_ _ => absurd ((hoff 3 (by kernel_rfl)).symm.trans h0_) (by decide), fun h0_ _ => absurd ((hoff 4 (by kernel_rfl)).symm.trans h0_) (by decide), fun h0_ => absurd ((hoff 5 (by kernel_rfl)).symm.trans h0_) (by decide), fun h0_ => absurd ((hoff 3 (by kernel_rfl)).symm.trans h0_) (by decide), fun h0_ => absurd ((hoff 4 (by kernel_rfl)).symm.trans h0_) (by decide)⟩
                        refine steps_cons ?_ ?_
                        · rintro b a w' ⟨gb, A1, c1, m3_, m4_, ha, Q_TW, Q_GB, Q_PW, Q_TZ, Q_X3_, Q_X4_⟩ hb_ hon hoff
                          refine ⟨_, rfl, fun K hK => ?_⟩
                          have e133 : a.tmps[133]? = some (.agg #[.int .i64 t.f0, .string t.f1, .int .i64 t.f2, .int .i64 t.f3, .int .i64 t.f4]) := by rw [ha]; exact putSel_on (e := (1, 133, .agg #[.int .i64 t.f0, .string t.f1, .int .i64 t.f2, .int .i64 t.f3, .int .i64 t.f4])) 1 rfl rfl (hon 1 (by kernel_rfl)) rfl
                          replace ha := Aside0.mk ha
                          have TW := Aside0.mk (Q_TW (hoff 4 (by kernel_rfl)))
                          refine goesF_ Try.func18 (by kernel_rfl) rfl #[.int .i64 7, .agg #[.int .i64 t.f0, .string t.f1, .int .i64 t.f2, .int .i64 t.f3, .int .i64 t.f4]] (by rfl) rfl rfl (by first | (simp only [List.map_toArray, List.map_cons, List.map_nil, Act.eval, Array.getD_eq_getD_getElem?, Option.getD_some, e133]; done) | (simp only [List.map_toArray, List.map_cons, List.map_nil, Act.eval, Array.getD_eq_getD_getElem?, Option.getD_some, e133]; rfl)) ?_
                          refine (virt_calls 7 t _).mono ?_
                          rintro e_ w2 ⟨rfl, hbw_⟩
                          refine ⟨_, rfl, ?_⟩
                          refine hK.out _ _ ⟨gb, A1, c1, m3_, m4_, (by rw [ha.out]; exact putSel_upk 2 hb_ rfl rfl rfl), fun _ => (TW.out.up hbw_), fun h0_ _ => absurd ((hoff 3 (by kernel_rfl)).symm.trans h0_) (by decide), fun h0_ _ => absurd ((hoff 4 (by kernel_rfl)).symm.trans h0_) (by decide), fun h0_ => absurd ((hoff 5 (by kernel_rfl)).symm.trans h0_) (by decide), fun h0_ => absurd ((hoff 3 (by kernel_rfl)).symm.trans h0_) (by decide), fun h0_ => absurd ((hoff 4 (by kernel_rfl)).symm.trans h0_) (by decide)⟩
                        refine steps_cons ?_ ?_
                        · rintro b a w' ⟨gb, A1, c1, m3_, m4_, ha, Q_TW, Q_GB, Q_PW, Q_TZ, Q_X3_, Q_X4_⟩ hb_ hon hoff
                          refine ⟨_, rfl, fun K hK => ?_⟩
                          have e134 : a.tmps[134]? = some (.agg #[.int .i64 7, .string ⟨#[]⟩, .int .i64 0, .int .i64 t.f3, .int .i64 t.f4]) := by rw [ha]; exact putSel_on (e := (2, 134, .agg #[.int .i64 7, .string ⟨#[]⟩, .int .i64 0, .int .i64 t.f3, .int .i64 t.f4])) 2 rfl rfl (hon 2 (by kernel_rfl)) rfl
                          replace ha := Aside0.mk ha
                          have TW := Aside0.mk (Q_TW (hoff 4 (by kernel_rfl)))
                          refine value_ (w1 := w'.alloc (.cells #[.int .i64 7, .string ⟨#[]⟩, .int .i64 0, .int .i64 t.f3, .int .i64 t.f4] 27)) (v := .slice (some ⟨w'.heap.size, 0, none⟩) 1 1) (by rfl) rfl ?_ ?_
                          · go_simp
                          have hn_ : (w'.alloc (.cells #[.int .i64 7, .string ⟨#[]⟩, .int .i64 0, .int .i64 t.f3, .int .i64 t.f4] 27)).heap[w'.heap.size]? = some (.cells #[.int .i64 7, .string ⟨#[]⟩, .int .i64 0, .int .i64 t.f3, .int .i64 t.f4] 27) := blk_new _ _
                          have hbw_ : Below w'.heap.size w' (w'.alloc (.cells #[.int .i64 7, .string ⟨#[]⟩, .int .i64 0, .int .i64 t.f3, .int .i64 t.f4] 27)) := below_alloc (Below.refl _ _) _
                          obtain ⟨w2, hw2⟩ : ∃ w2, w2 = w'.alloc (.cells #[.int .i64 7, .string ⟨#[]⟩, .int .i64 0, .int .i64 t.f3, .int .i64 t.f4] 27) := ⟨_, rfl⟩
                          rw [← hw2]
                          rw [← hw2] at hn_ hbw_
                          refine hK.out _ _ ⟨w'.heap.size, A1, c1, (.slice (some ⟨w'.heap.size, 0, none⟩) 1 1), m4_, (by rw [ha.out]; exact putSel_upk 3 hb_ rfl rfl rfl), fun _ => (TW.out.up hbw_), fun _ _ => hn_, fun h0_ _ => absurd ((hoff 4 (by kernel_rfl)).symm.trans h0_) (by decide), fun h0_ => absurd ((hoff 5 (by kernel_rfl)).symm.trans h0_) (by decide), fun _ => rfl, fun h0_ => absurd ((hoff 4 (by kernel_rfl)).symm.trans h0_) (by decide)⟩
                        refine steps_cons ?_ ?_
                        · rintro b a w' ⟨gb, A1, c1, m3_, m4_, ha, Q_TW, Q_GB, Q_PW, Q_TZ, Q_X3_, Q_X4_⟩ hb_ hon hoff
                          refine ⟨_, rfl, fun K hK => ?_⟩
                          have e132 : a.tmps[132]? = some (.slice Ao n co) := by rw [ha]; exact putSel_on (e := (0, 132, .slice Ao n co)) 0 rfl rfl (hon 0 (by kernel_rfl)) rfl
                          have e135 : a.tmps[135]? = some (m3_) := by rw [ha]; exact putSel_on (e := (3, 135, m3_)) 3 rfl rfl (hon 3 (by kernel_rfl)) rfl
                          rw [Q_X3_ (hon 3 (by kernel_rfl))] at e135
                          replace ha := Aside0.mk ha
                          have TW := Aside0.mk (Q_TW hb_)
                          have GB := Aside0.mk (Q_GB (hon 3 (by kernel_rfl)) hb_)
                          refine app_ (by rfl) rfl (.tmp 132) (.tmp 135) 22 rfl pm.w0.heap.size 27 (.agg #[.int .i64 0, .string ⟨#[]⟩, .int .i64 0, .int .i64 0, .int .i64 0]) 5 48 Try.underlying22 info27 rfl (by decide) (.slice Ao n co) n (out.flatMap cT) (eval_of e132) (by have h_ := TW.out.rO; rw [← HN.out] at h_; exact h_) ⟨gb, 0, none⟩ 1 1 (cT ((vt 7 t))) (eval_of e135) rfl (World.news_of_block GB.out) (cT_one _) (by have h_ := HL.out; rw [← HN.out] at h_; simp only [maxLen]; omega) (by have h_ := HL.out; rw [← HN.out] at h_; omega) TW.out.below.size ?_
                          intro v2_ w2 ho_ hg_ hat_
                          obtain ⟨A1_, c1_, rfl⟩ := own_slice ho_
                          refine hK.out _ _ ⟨gb, A1_, c1_, m3_, (.slice A1_ (n + 1) c1_), (by rw [ha.out]; exact putSel_upk 4 hb_ rfl rfl rfl), fun h0_ => absurd ((up_self b 4).symm.trans h0_) (by decide), fun _ h1_ => absurd ((up_self b 4).symm.trans h1_) (by decide), fun _ _ => ⟨w', TW.out, by rw [← HN.out]; exact ho_, by rw [← HN.out]; exact hg_, by rw [← HN.out]; exact hat_⟩, fun h0_ => absurd ((hoff 5 (by kernel_rfl)).symm.trans h0_) (by decide), Q_X3_, fun _ => rfl⟩
                        refine steps_cons ?_ ?_
                        · rintro b a w' ⟨gb, A1, c1, m3_, m4_, ha, Q_TW, Q_GB, Q_PW, Q_TZ, Q_X3_, Q_X4_⟩ hb_ hon hoff
                          refine ⟨_, rfl, fun K hK => ?_⟩
                          have e3 : a.tmps[3]? = some (.pointer (some ⟨go, 0, none⟩)) := by rw [ha]; exact (putSel_off rfl).trans rfl
                          have e136 : a.tmps[136]? = some (m4_) := by rw [ha]; exact putSel_on (e := (4, 136, m4_)) 4 rfl rfl (hon 4 (by kernel_rfl)) rfl
                          rw [Q_X4_ (hon 4 (by kernel_rfl))] at e136
                          replace ha := Aside0.mk ha
                          have PW := Aside0.mk (Q_PW (hon 4 (by kernel_rfl)) hb_)
                          have hf_ : w'.frozen? ⟨go, 0, none⟩ = false := by have h_ := PW.out.home.free; rw [hm.ho] at h_; exact h_
                          have hc_ : w'.cell? ⟨go, 0, none⟩ = some (.slice Ao out.length co) := by have h_ := PW.out.home.cell; rw [hm.ho] at h_; exact h_
                          refine skip_ (w1 := w'.setCell ⟨go, 0, none⟩ (.slice A1 (n + 1) c1)) (by rfl) rfl ?_ ?_
                          · go_simp
                          refine hK.out _ _ ⟨gb, A1, c1, m3_, m4_, (by rw [ha.out]; exact putSel_none (v := undef) rfl), fun h0_ => absurd ((hon 4 (by kernel_rfl)).symm.trans h0_) (by decide), fun _ h1_ => absurd ((hon 4 (by kernel_rfl)).symm.trans h1_) (by decide), fun _ h1_ => absurd ((up_self b 5).symm.trans h1_) (by decide), fun _ => (by have h_ := PW.out.store; rw [hm.ho] at h_; exact h_), Q_X3_, Q_X4_⟩
                        exact steps_nil
                      rintro b a w9 hall ⟨gb, A1, c1, m3_, m4_, ha, Q_TW, Q_GB, Q_PW, Q_TZ, Q_X3_, Q_X4_⟩
                      have hb0_ := hall 0 (by kernel_rfl)
                      have hb1_ := hall 1 (by kernel_rfl)
                      have hb2_ := hall 2 (by kernel_rfl)
                      have hb3_ := hall 3 (by kernel_rfl)
                      have hb4_ := hall 4 (by kernel_rfl)
                      have hb5_ := hall 5 (by kernel_rfl)
                      subst ha
                      obtain rfl := Q_X3_ hb3_
                      obtain rfl := Q_X4_ hb4_
                      simp only [putSel, hb0_, hb1_, hb2_, hb3_, hb4_, hb5_, if_true, Act.put, List.setIfInBounds_toArray, List.set_cons_zero, List.set_cons_succ]
                      clear Q_TW
                      clear Q_GB
                      clear Q_PW
                      have TZ := Aside0.mk (Q_TZ hb5_)
                      clear Q_TZ
                      clear hall hb0_ hb1_ hb2_ hb3_ hb4_ hb5_
                      clear HT_ HW_ hHeld H0 HBX HN hm HL Q_X3_ Q_X4_
                      go_wp2_with fail
                      have hwk : IntKind.i64.wrap (((k + 1 : Nat) : Int) - 1) = (k : Int) := by have h1 := hk.out; have h2 := HON.out; rw [IntKind.wrap_i64]; omega
                      go_roundg k
                      case measure => exact Nat.lt_succ_self k
                      case rel =>
                        refine ⟨_, ?_, Go.Lib.hid (by have := hk.out; omega), Go.Lib.hid ?_, Go.Lib.hid TZ.out⟩
                        · have h1 := hk.out; have h2 := HON.out; congr 1; first | (unfold wrap64; omega) | go_num
                        · rw [ho.out, List.append_assoc, show N - k = (N - (k + 1)) + 1 by have := hk.out; omega, List.replicate_succ']
            · have hk9' : (t.f0 == 9) = false := beq_eq_false_iff_ne.mpr hk9
              have HF := Go.Lib.hid (show goL l (gk - 1) (i + 1) (restL fb t z) = layL l by rw [← hS.out, HS.out, if_neg hk9])
              clear hk9
              obtain ⟨z2, hz2⟩ : ∃ z2, z2 = (if fb = true then lineL t z else z) := ⟨_, rfl⟩
              have HRS := Go.Lib.hid (show restL fb t z = (if isB t 5 [40] || isB t 5 [123] then (0, ⟨#[]⟩) :: (if (endsR t z2.1).2 then (shutL t (endsR t z2.1).1 z2).1.tail else (shutL t (endsR t z2.1).1 z2).1) else (if (endsR t z2.1).2 then (shutL t (endsR t z2.1).1 z2).1.tail else (shutL t (endsR t z2.1).1 z2).1), (shutL t (endsR t z2.1).1 z2).2 ++ [t]) by rw [hz2]; rfl)
              have HBD2 := Go.Lib.hid (show sz z2 ≤ 46001 from by
                have h1 := HBD.out
                rw [hz2]
                split
                · have h2 := sz_lineL t z; omega
                · omega)
              have HZE := Go.Lib.hid hz2
              have HIN := hI3
              obtain ⟨As, cs, Ao, co, hT3⟩ := hI3.out
              have b0 := (box_of (HBX.out _ _ _ _ _ _ _ hT3)).c0
              clear hz2 hT3 hI3 HS hS
              go_upto_if 141 with fail
              clear b0
              go_cut [14, 16, 17] from 142 to 179 (fun s14 s16 s17 wx => Hid (TwoE pm z2.1.reverse z2.2 wx))
              case first =>
                cases fb with
                | true =>
                  have hz := Go.Lib.hid (show z2 = lineL t z by rw [HZE.out]; rfl)
                  obtain ⟨As, cs, Ao, co, hT3⟩ := HIN.out
                  obtain ⟨ns, hns⟩ : ∃ ns, ns = z.1.reverse.length := ⟨_, rfl⟩
                  have hns1 : ns < 1000000 := by rw [hns, List.length_reverse]; have h1 := HBD.out; unfold sz at h1; omega
                  have c0 : wc.cell? ⟨gs, 0, none⟩ = some (.slice As ns cs) := by have h_ := hT3.cS; rw [HMM.out.hs, ← hns] at h_; exact h_
                  have HBL := Go.Lib.hid (blocks_calls hT3 (by rw [← hns]; exact hns1))
                  rw [← hns, List.reverse_reverse] at HBL
                  clear hT3 hns HZE
                  go_upto_block 6 with fail
                  refine HBL.out.mono ?_
                  rintro e w5 ⟨⟨A, c5, rfl, hR⟩, hb5⟩
                  have HIN := Go.Lib.hid (HIN.out.up hb5)
                  have HRB := Go.Lib.hid hR
                  have HBL2 := Go.Lib.hid (bk_le z.1)
                  have HB1 := Go.Lib.hid (show z.1.length ≤ 46000 by have h1 := HBD.out; unfold sz at h1; omega)
                  obtain ⟨B, hB⟩ : ∃ B, B = bkR z.1 := ⟨_, rfl⟩
                  rw [← hB] at HRB HBL2 ⊢
                  have hB1 : (B.length : Int) ≤ 46000 := by have h1 := HB1.out; have h2 := HBL2.out; omega
                  have HB := Go.Lib.hid hB
                  clear hb5 hR c0 HBL hB
                  go_upto_block 6 with fail
                  go_cut [14, 16, 145] from 146 to 156 (fun s14 s16 s145 wx => s14 = .int .i64 (cntR t B : Nat) ∧ Hid (TwoE pm z.1.reverse z.2 wx))
                  case first =>
                    go_wp2_with fail
                    go_loopg [14, 145] B.length (fun k v14 v145 wx => ∃ j : Nat, Hid (j + k = B.length) ∧ v145 = .int .i64 j ∧ v14 = .int .i64 j ∧ Hid (cntR t B = j + cntR t (B.drop j)) ∧ Hid (RdG wx A B) ∧ Hid (TwoE pm z.1.reverse z.2 wx))
                    case atStart => exact ⟨0, Go.Lib.hid (by omega), rfl, rfl, Go.Lib.hid (by simp), HRB, HIN⟩
                    case round =>
                      clear HRB HIN
                      obtain ⟨j, hj, rfl, rfl, hC, HRB, HIN⟩ := hrel
                      by_cases hjl : j < B.length
                      · have hjl' : (j : Int) < (B.length : Int) := by omega
                        have hj0 : (0 : Int) ≤ (j : Int) := by omega
                        obtain ⟨y, hy⟩ : ∃ y, B[j]? = some y := ⟨_, List.getElem?_eq_getElem hjl⟩
                        have hd : B.drop j = y :: B.drop (j + 1) := by
                          obtain ⟨hl, rfl⟩ := List.getElem?_eq_some_iff.1 hy
                          exact List.drop_eq_getElem_cons hl
                        obtain ⟨ad2, rfl, y0, y1⟩ := HRB.out.at_ hy
                        obtain ⟨As6, cs6, Ao6, co6, hT6⟩ := HIN.out
                        have b4 : ∀ o, (wr.alloc o).cell? ⟨bt, 4, none⟩ = some (.int .i64 t.f4) := fun o => (box_of (HBX.out _ _ _ _ _ _ _ (hT6.up (below_alloc (Below.refl _ _) o)))).c4
                        rw [hd] at hC
                        have HJL := Go.Lib.hid hjl
                        have HIN2 := Go.Lib.hid (show ∀ o, TwoE pm z.1.reverse z.2 (wr.alloc o) from fun o => HIN.out.up (below_alloc (Below.refl _ _) o))
                        have HRB2 := Go.Lib.hid (show ∀ o, RdG (wr.alloc o) (some ad2) B from fun o => HRB.out.up (below_alloc (Below.refl _ _) o))
                        clear hy hjl hd hT6
                        by_cases h0 : y.1 ≤ t.f4
                        · have h0' : decide (y.1 ≤ t.f4) = true := decide_eq_true h0
                          have hn : cntR t B = j := by rw [hC.out]; unfold cntR; rw [if_pos h0]; rfl
                          clear h0
                          go_wp2_with fail
                          go_meet
                          exact ⟨by rw [hn], Go.Lib.hid (HIN2.out _)⟩
                        · have h0' : decide (y.1 ≤ t.f4) = false := decide_eq_false h0
                          have hn := Go.Lib.hid (show cntR t B = (j + 1) + cntR t (B.drop (j + 1)) by rw [hC.out]; conv => { lhs; rhs; unfold cntR }; rw [if_neg h0]; omega)
                          clear h0
                          go_wp2_with fail
                          go_roundg (gk - 1)
                          case measure => have := hj.out; have := HJL.out; omega
                          case rel => exact ⟨j + 1, Go.Lib.hid (by have := hj.out; have := HJL.out; omega), by go_num, by go_num, hn, Go.Lib.hid (HRB2.out _), Go.Lib.hid (HIN2.out _)⟩
                      · have hjl' : ¬ (j : Int) < (B.length : Int) := by omega
                        have hjd : decide ((j : Int) < (B.length : Int)) = false := decide_eq_false (by omega)
                        have hjd2 : decide (j < B.length) = false := decide_eq_false (by omega)
                        have hn : cntR t B = j := by rw [hC.out, List.drop_eq_nil_of_le (by omega)]; rfl
                        clear hjl
                        go_wp2_with fail
                        go_meet
                        exact ⟨by rw [hn], HIN⟩
                  case rest =>
                    obtain ⟨rfl, hI5⟩ := hcut
                    clear HRB HIN hB1
                    obtain ⟨y, hy⟩ : ∃ y, y = shutL t (cntR t B) z := ⟨_, rfl⟩
                    have hcl := cntR_le_sz t z
                    rw [← HB.out] at hcl
                    have HSY := Go.Lib.hid (show sz y ≤ 46000 by rw [hy, sz_shut t _ z hcl]; exact HBD.out)
                    have HZY := Go.Lib.hid (show z2 = if semiB t y.1 then (y.1, y.2 ++ [vt 8 t]) else y by rw [hz.out, hy, HB.out]; rfl)
                    have HCL := Go.Lib.hid (cl17x HMM.out t (cntR t B) hI5.out hcl (by have := HBD.out; omega))
                    rw [← hy] at HCL
                    obtain ⟨As6, cs6, Ao6, co6, hT6⟩ := hI5.out
                    have ⟨b0, b1, b2, b3, b4⟩ := box_of (HBX.out _ _ _ _ _ _ _ hT6)
                    have hcz : (cntR t B : Int) ≤ 46000 := by have h1 := HB1.out; omega
                    clear hy hT6 hcl HB HBL2 hz
                    go_wp2_with fail
                    refine HCL.out.mono ?_
                    rintro e w6 ⟨rfl, hI6⟩
                    have hI6 := Go.Lib.hid hI6
                    clear HCL b0 b1 b2 b3 b4 hI5
                    obtain ⟨As6, cs6, Ao6, co6, hT6⟩ := hI6.out
                    obtain ⟨n6, hn6⟩ : ∃ n6, n6 = y.1.reverse.length := ⟨_, rfl⟩
                    have c0 : w6.cell? ⟨gs, 0, none⟩ = some (.slice As6 n6 cs6) := by have h_ := hT6.cS; rw [HMM.out.hs, ← hn6] at h_; exact h_
                    have HBL := Go.Lib.hid (blocks_calls hT6 (by rw [List.length_reverse]; have h1 := HSY.out; unfold sz at h1; omega))
                    rw [← hn6, List.reverse_reverse] at HBL
                    obtain ⟨B2, hB2⟩ : ∃ B2, B2 = bkR y.1 := ⟨_, rfl⟩
                    obtain ⟨n7, hn7⟩ : ∃ n7, n7 = B2.length := ⟨_, rfl⟩
                    rw [← hB2, ← hn7] at HBL
                    have HB2 := Go.Lib.hid hB2
                    have HN7 := Go.Lib.hid hn7
                    clear hB2 hn7
                    clear hT6 hn6 hcz
                    go_wp2_with fail
                    refine HBL.out.mono ?_
                    rintro e w7 ⟨⟨A7, c7, rfl, hR⟩, hb7⟩
                    have hI7 := Go.Lib.hid (hI6.out.up hb7)
                    have HR7 := Go.Lib.hid hR
                    clear HBL hb7 hR hI6 c0
                    go_upto_region 40 with fail
                    go_cut [174] from 163 to 173 (fun s174 wx => s174 = .bool (semiB t y.1) ∧ Hid (TwoE pm y.1.reverse y.2 wx))
                    case first =>
                      have hsb := Go.Lib.hid (show semiB t y.1 = decide (B2.head?.map (fun c => c.1) = some t.f4) by rw [HB2.out]; rfl)
                      clear HB2
                      have hn7 := HN7.out
                      clear HN7
                      generalize semiB t y.1 = sb at *
                      obtain ⟨As8, cs8, Ao8, co8, hT8⟩ := hI7.out
                      have b4 := (box_of (HBX.out _ _ _ _ _ _ _ hT8)).c4
                      cases B2 with
                      | nil =>
                        have hn0 : n7 = 0 := hn7
                        have hd1 : decide ((n7 : Int) > 0) = false := decide_eq_false (by omega)
                        have hd2 : decide ((0 : Int) < (n7 : Int)) = false := decide_eq_false (by omega)
                        have hd3 : decide (0 < n7) = false := decide_eq_false (by omega)
                        clear hn0 hn7
                        have hf := Go.Lib.hid (show sb = false by rw [hsb.out]; rfl)
                        clear hT8 HR7
                        go_quiet (fail)
                        go_wp2_with fail
                        go_meet
                        exact ⟨by rw [hf.out], Go.Lib.hid (hI7.out.up (pw_below_drewN (Below.refl _ _) _))⟩
                      | cons y8 r8 =>
                        obtain ⟨ad8, rfl, y0, y1⟩ := HR7.out.at_ (i := 0) (y := y8) rfl
                        have hn0 : 0 < n7 := by rw [hn7]; simp
                        have hd1 : decide ((n7 : Int) > 0) = true := decide_eq_true (by omega)
                        have hd2 : decide ((0 : Int) < (n7 : Int)) = true := decide_eq_true (by omega)
                        have hd3 : decide (0 < n7) = true := decide_eq_true hn0
                        have hd4 : (0 : Int) < (n7 : Int) := by omega
                        rw [Nat.zero_mul, Addr.add_zero'] at y0
                        have hf := Go.Lib.hid (show sb = (y8.1 == t.f4) by rw [hsb.out]; simp [Bool.beq_eq_decide_eq])
                        clear hT8 HR7 hn7
                        go_quiet (fail)
                        go_wp2_with fail
                        go_meet
                        exact ⟨by rw [hf.out], Go.Lib.hid (hI7.out.up (pw_below_drewN (Below.refl _ _) _))⟩
                    case rest =>
                      obtain ⟨rfl, hI8⟩ := hcut
                      clear hI7 HR7 HB2 HN7
                      generalize semiB t y.1 = sb at *
                      cases sb with
                      | false =>
                        have hz := Go.Lib.hid (show z2 = y by rw [HZY.out]; rfl)
                        go_wp2_with fail
                        go_meet
                        exact Go.Lib.hid (by rw [hz.out]; exact hI8.out)
                      | true =>
                        have hz := Go.Lib.hid (show z2 = (y.1, y.2 ++ [vt 8 t]) by rw [HZY.out]; rfl)
                        go_wp2_with fail
                        obtain ⟨st, hste⟩ : ∃ st, st = y.1.reverse := ⟨_, rfl⟩
                        obtain ⟨out, houte⟩ : ∃ out, out = y.2 := ⟨_, rfl⟩
                        obtain ⟨As, cs, Ao, co, hT17⟩ := hI8.out
                        rw [← hste, ← houte] at hT17
                        have HST := Go.Lib.hid hste
                        have HOU := Go.Lib.hid houte
                        have HBX2 := HBX
                        have HBX := Go.Lib.hid (show ∀ W', Two pm As cs st Ao co out W' → W'.heap[bt]? = some (tO t) from fun W' h => HBX.out _ _ _ _ _ _ _ h)
                        obtain ⟨n, hn⟩ : ∃ n, n = out.length := ⟨_, rfl⟩
                        have HN := Go.Lib.hid hn
                        have H0 := Go.Lib.hid hT17.drew
                        have hm := HMM.out
                        have HL := Go.Lib.hid (show out.length < 1000000 by rw [houte]; have h1 := HSY.out; unfold sz at h1; omega)
                        clear hI8 hn hT17 hste houte
                        refine start_ (n := 6) (S := fun w' => True) (ds := []) #[false, false, false, false, false, false] (by kernel_rfl) rfl rfl trivial (fun hHeld => ?_)
                        refine with_tabW lay.tab41 lay.bits41 (fun HT_ HW_ => ?_)
                        refine inv_at [0, 1, 2, 3, 4, 5] (fun a0_ b a w' => ∃ (gb : Nat) (A1 : Option Addr) (c1 : Nat) (m3_ : Value) (m4_ : Value), a = putSel a0_ b [(0, 175, .slice Ao n co), (1, 176, .agg #[.int .i64 t.f0, .string t.f1, .int .i64 t.f2, .int .i64 t.f3, .int .i64 t.f4]), (2, 177, .agg #[.int .i64 8, .string ⟨#[]⟩, .int .i64 0, .int .i64 t.f3, .int .i64 t.f4]), (3, 178, m3_), (4, 179, m4_)] ∧ (b 4 = false → Two pm As cs st Ao co out w') ∧ (b 3 = true → b 4 = false → w'.heap[gb]? = some (.cells #[.int .i64 8, .string ⟨#[]⟩, .int .i64 0, .int .i64 t.f3, .int .i64 t.f4] 27)) ∧ (b 4 = true → b 5 = false → PendO pm As cs st Ao co out ((vt 8 t)) (.slice A1 (n + 1) c1) w') ∧ (b 5 = true → TwoE pm st (out ++ [(vt 8 t)]) w') ∧ (b 3 = true → (m3_ : Value) = .slice (some ⟨gb, 0, none⟩) 1 1) ∧ (b 4 = true → (m4_ : Value) = .slice A1 (n + 1) c1)) HT_.out HW_.out (by kernel_rfl) (by kernel_rfl) ?_ ?_ ?_
                        · exact ⟨0, none, 0, .bool false, .bool false, by simp only [putSel, Bool.false_eq_true, if_false], fun _ => H0.out, fun h_ => absurd h_ (by decide), fun h_ => absurd h_ (by decide), fun h_ => absurd h_ (by decide), fun h_ => absurd h_ (by decide), fun h_ => absurd h_ (by decide)⟩
                        · skip
                          refine steps_cons ?_ ?_
                          · rintro b a w' ⟨gb, A1, c1, m3_, m4_, ha, Q_TW, Q_GB, Q_PW, Q_TZ, Q_X3_, Q_X4_⟩ hb_ hon hoff
                            refine ⟨_, rfl, fun K hK => ?_⟩
                            have e3 : a.tmps[3]? = some (.pointer (some ⟨go, 0, none⟩)) := by rw [ha]; exact (putSel_off rfl).trans rfl
                            replace ha := Aside0.mk ha
                            have TW := Aside0.mk (Q_TW (hoff 4 (by kernel_rfl)))
                            have hc0_ : w'.cell? ⟨go, 0, none⟩ = some (.slice Ao n co) := (by have h_ := TW.out.cO; rw [hm.ho, ← HN.out] at h_; exact h_)
                            refine value_ (w1 := w') (v := .slice Ao n co) (by rfl) rfl ?_ ?_
                            · go_simp
                              (try simp only [i64_w])
                              try rfl
                            refine hK.out _ _ ⟨gb, A1, c1, m3_, m4_, (by rw [ha.out]; exact putSel_upk 0 hb_ rfl rfl rfl), Q_TW, Q_GB, fun h0_ _ => absurd ((hoff 4 (by kernel_rfl)).symm.trans h0_) (by decide), fun h0_ => absurd ((hoff 5 (by kernel_rfl)).symm.trans h0_) (by decide), Q_X3_, fun h0_ => absurd ((hoff 4 (by kernel_rfl)).symm.trans h0_) (by decide)⟩
                          refine steps_cons ?_ ?_
                          · rintro b a w' ⟨gb, A1, c1, m3_, m4_, ha, Q_TW, Q_GB, Q_PW, Q_TZ, Q_X3_, Q_X4_⟩ hb_ hon hoff
                            refine ⟨_, rfl, fun K hK => ?_⟩
                            have e7 : a.tmps[7]? = some (.pointer (some ⟨bt, 0, none⟩)) := by rw [ha]; exact (putSel_off rfl).trans rfl
                            replace ha := Aside0.mk ha
                            have TW := Aside0.mk (Q_TW (hoff 4 (by kernel_rfl)))
                            have hc0_ : w'.cell? ⟨bt, 0, none⟩ = some (.int .i64 t.f0) := (blk_cell (HBX.out _ TW.out) 0).trans rfl
                            have hc1_ : w'.cell? ⟨bt, 1, none⟩ = some (.string t.f1) := (blk_cell (HBX.out _ TW.out) 1).trans rfl
                            have hc2_ : w'.cell? ⟨bt, 2, none⟩ = some (.int .i64 t.f2) := (blk_cell (HBX.out _ TW.out) 2).trans rfl
                            have hc3_ : w'.cell? ⟨bt, 3, none⟩ = some (.int .i64 t.f3) := (blk_cell (HBX.out _ TW.out) 3).trans rfl
                            have hc4_ : w'.cell? ⟨bt, 4, none⟩ = some (.int .i64 t.f4) := (blk_cell (HBX.out _ TW.out) 4).trans rfl
                            refine value_ (w1 := w') (v := .agg #[.int .i64 t.f0, .string t.f1, .int .i64 t.f2, .int .i64 t.f3, .int .i64 t.f4]) (by rfl) rfl ?_ ?_
                            · go_simp
                              (try simp only [i64_w])
                              try rfl
                            refine hK.out _ _ ⟨gb, A1, c1, m3_, m4_, (by rw [ha.out]; exact putSel_upk 1 hb_ rfl rfl rfl), Q_TW, fun h0_ _ => absurd ((hoff 3 (by kernel_rfl)).symm.trans h0_) (by decide), fun h0_ _ => absurd ((hoff 4 (by kernel_rfl)).symm.trans h0_) (by decide), fun h0_ => absurd ((hoff 5 (by kernel_rfl)).symm.trans h0_) (by decide), fun h0_ => absurd ((hoff 3 (by kernel_rfl)).symm.trans h0_) (by decide), fun h0_ => absurd ((hoff 4 (by kernel_rfl)).symm.trans h0_) (by decide)⟩
                          refine steps_cons ?_ ?_
                          · rintro b a w' ⟨gb, A1, c1, m3_, m4_, ha, Q_TW, Q_GB, Q_PW, Q_TZ, Q_X3_, Q_X4_⟩ hb_ hon hoff
                            refine ⟨_, rfl, fun K hK => ?_⟩
                            have e176 : a.tmps[176]? = some (.agg #[.int .i64 t.f0, .string t.f1, .int .i64 t.f2, .int .i64 t.f3, .int .i64 t.f4]) := by rw [ha]; exact putSel_on (e := (1, 176, .agg #[.int .i64 t.f0, .string t.f1, .int .i64 t.f2, .int .i64 t.f3, .int .i64 t.f4])) 1 rfl rfl (hon 1 (by kernel_rfl)) rfl
                            replace ha := Aside0.mk ha
                            have TW := Aside0.mk (Q_TW (hoff 4 (by kernel_rfl)))
                            refine goesF_ Try.func18 (by kernel_rfl) rfl #[.int .i64 8, .agg #[.int .i64 t.f0, .string t.f1, .int .i64 t.f2, .int .i64 t.f3, .int .i64 t.f4]] (by rfl) rfl rfl (by first | (simp only [List.map_toArray, List.map_cons, List.map_nil, Act.eval, Array.getD_eq_getD_getElem?, Option.getD_some, e176]; done) | (simp only [List.map_toArray, List.map_cons, List.map_nil, Act.eval, Array.getD_eq_getD_getElem?, Option.getD_some, e176]; rfl)) ?_
                            refine (virt_calls 8 t _).mono ?_
                            rintro e_ w2 ⟨rfl, hbw_⟩
                            refine ⟨_, rfl, ?_⟩
                            refine hK.out _ _ ⟨gb, A1, c1, m3_, m4_, (by rw [ha.out]; exact putSel_upk 2 hb_ rfl rfl rfl), fun _ => (TW.out.up hbw_), fun h0_ _ => absurd ((hoff 3 (by kernel_rfl)).symm.trans h0_) (by decide), fun h0_ _ => absurd ((hoff 4 (by kernel_rfl)).symm.trans h0_) (by decide), fun h0_ => absurd ((hoff 5 (by kernel_rfl)).symm.trans h0_) (by decide), fun h0_ => absurd ((hoff 3 (by kernel_rfl)).symm.trans h0_) (by decide), fun h0_ => absurd ((hoff 4 (by kernel_rfl)).symm.trans h0_) (by decide)⟩
                          refine steps_cons ?_ ?_
                          · rintro b a w' ⟨gb, A1, c1, m3_, m4_, ha, Q_TW, Q_GB, Q_PW, Q_TZ, Q_X3_, Q_X4_⟩ hb_ hon hoff
                            refine ⟨_, rfl, fun K hK => ?_⟩
                            have e177 : a.tmps[177]? = some (.agg #[.int .i64 8, .string ⟨#[]⟩, .int .i64 0, .int .i64 t.f3, .int .i64 t.f4]) := by rw [ha]; exact putSel_on (e := (2, 177, .agg #[.int .i64 8, .string ⟨#[]⟩, .int .i64 0, .int .i64 t.f3, .int .i64 t.f4])) 2 rfl rfl (hon 2 (by kernel_rfl)) rfl
                            replace ha := Aside0.mk ha
                            have TW := Aside0.mk (Q_TW (hoff 4 (by kernel_rfl)))
                            refine value_ (w1 := w'.alloc (.cells #[.int .i64 8, .string ⟨#[]⟩, .int .i64 0, .int .i64 t.f3, .int .i64 t.f4] 27)) (v := .slice (some ⟨w'.heap.size, 0, none⟩) 1 1) (by rfl) rfl ?_ ?_
                            · go_simp
                            have hn_ : (w'.alloc (.cells #[.int .i64 8, .string ⟨#[]⟩, .int .i64 0, .int .i64 t.f3, .int .i64 t.f4] 27)).heap[w'.heap.size]? = some (.cells #[.int .i64 8, .string ⟨#[]⟩, .int .i64 0, .int .i64 t.f3, .int .i64 t.f4] 27) := blk_new _ _
                            have hbw_ : Below w'.heap.size w' (w'.alloc (.cells #[.int .i64 8, .string ⟨#[]⟩, .int .i64 0, .int .i64 t.f3, .int .i64 t.f4] 27)) := below_alloc (Below.refl _ _) _
                            obtain ⟨w2, hw2⟩ : ∃ w2, w2 = w'.alloc (.cells #[.int .i64 8, .string ⟨#[]⟩, .int .i64 0, .int .i64 t.f3, .int .i64 t.f4] 27) := ⟨_, rfl⟩
                            rw [← hw2]
                            rw [← hw2] at hn_ hbw_
                            refine hK.out _ _ ⟨w'.heap.size, A1, c1, (.slice (some ⟨w'.heap.size, 0, none⟩) 1 1), m4_, (by rw [ha.out]; exact putSel_upk 3 hb_ rfl rfl rfl), fun _ => (TW.out.up hbw_), fun _ _ => hn_, fun h0_ _ => absurd ((hoff 4 (by kernel_rfl)).symm.trans h0_) (by decide), fun h0_ => absurd ((hoff 5 (by kernel_rfl)).symm.trans h0_) (by decide), fun _ => rfl, fun h0_ => absurd ((hoff 4 (by kernel_rfl)).symm.trans h0_) (by decide)⟩
                          refine steps_cons ?_ ?_
                          · rintro b a w' ⟨gb, A1, c1, m3_, m4_, ha, Q_TW, Q_GB, Q_PW, Q_TZ, Q_X3_, Q_X4_⟩ hb_ hon hoff
                            refine ⟨_, rfl, fun K hK => ?_⟩
                            have e175 : a.tmps[175]? = some (.slice Ao n co) := by rw [ha]; exact putSel_on (e := (0, 175, .slice Ao n co)) 0 rfl rfl (hon 0 (by kernel_rfl)) rfl
                            have e178 : a.tmps[178]? = some (m3_) := by rw [ha]; exact putSel_on (e := (3, 178, m3_)) 3 rfl rfl (hon 3 (by kernel_rfl)) rfl
                            rw [Q_X3_ (hon 3 (by kernel_rfl))] at e178
                            replace ha := Aside0.mk ha
                            have TW := Aside0.mk (Q_TW hb_)
                            have GB := Aside0.mk (Q_GB (hon 3 (by kernel_rfl)) hb_)
                            refine app_ (by rfl) rfl (.tmp 175) (.tmp 178) 22 rfl pm.w0.heap.size 27 (.agg #[.int .i64 0, .string ⟨#[]⟩, .int .i64 0, .int .i64 0, .int .i64 0]) 5 48 Try.underlying22 info27 rfl (by decide) (.slice Ao n co) n (out.flatMap cT) (eval_of e175) (by have h_ := TW.out.rO; rw [← HN.out] at h_; exact h_) ⟨gb, 0, none⟩ 1 1 (cT ((vt 8 t))) (eval_of e178) rfl (World.news_of_block GB.out) (cT_one _) (by have h_ := HL.out; rw [← HN.out] at h_; simp only [maxLen]; omega) (by have h_ := HL.out; rw [← HN.out] at h_; omega) TW.out.below.size ?_
                            intro v2_ w2 ho_ hg_ hat_
                            obtain ⟨A1_, c1_, rfl⟩ := own_slice ho_
                            refine hK.out _ _ ⟨gb, A1_, c1_, m3_, (.slice A1_ (n + 1) c1_), (by rw [ha.out]; exact putSel_upk 4 hb_ rfl rfl rfl), fun h0_ => absurd ((up_self b 4).symm.trans h0_) (by decide), fun _ h1_ => absurd ((up_self b 4).symm.trans h1_) (by decide), fun _ _ => ⟨w', TW.out, by rw [← HN.out]; exact ho_, by rw [← HN.out]; exact hg_, by rw [← HN.out]; exact hat_⟩, fun h0_ => absurd ((hoff 5 (by kernel_rfl)).symm.trans h0_) (by decide), Q_X3_, fun _ => rfl⟩
                          refine steps_cons ?_ ?_
                          · rintro b a w' ⟨gb, A1, c1, m3_, m4_, ha, Q_TW, Q_GB, Q_PW, Q_TZ, Q_X3_, Q_X4_⟩ hb_ hon hoff
                            refine ⟨_, rfl, fun K hK => ?_⟩
                            have e3 : a.tmps[3]? = some (.pointer (some ⟨go, 0, none⟩)) := by rw [ha]; exact (putSel_off rfl).trans rfl
                            have e179 : a.tmps[179]? = some (m4_) := by rw [ha]; exact putSel_on (e := (4, 179, m4_)) 4 rfl rfl (hon 4 (by kernel_rfl)) rfl
                            rw [Q_X4_ (hon 4 (by kernel_rfl))] at e179
                            replace ha := Aside0.mk ha
                            have PW := Aside0.mk (Q_PW (hon 4 (by kernel_rfl)) hb_)
                            have hf_ : w'.frozen? ⟨go, 0, none⟩ = false := by have h_ := PW.out.home.free; rw [hm.ho] at h_; exact h_
                            have hc_ : w'.cell? ⟨go, 0, none⟩ = some (.slice Ao out.length co) := by have h_ := PW.out.home.cell; rw [hm.ho] at h_; exact h_
                            refine skip_ (w1 := w'.setCell ⟨go, 0, none⟩ (.slice A1 (n + 1) c1)) (by rfl) rfl ?_ ?_
                            · go_simp
                            refine hK.out _ _ ⟨gb, A1, c1, m3_, m4_, (by rw [ha.out]; exact putSel_none (v := undef) rfl), fun h0_ => absurd ((hon 4 (by kernel_rfl)).symm.trans h0_) (by decide), fun _ h1_ => absurd ((hon 4 (by kernel_rfl)).symm.trans h1_) (by decide), fun _ h1_ => absurd ((up_self b 5).symm.trans h1_) (by decide), fun _ => (by have h_ := PW.out.store; rw [hm.ho] at h_; exact h_), Q_X3_, Q_X4_⟩
                          exact steps_nil
                        rintro b a w9 hall ⟨gb, A1, c1, m3_, m4_, ha, Q_TW, Q_GB, Q_PW, Q_TZ, Q_X3_, Q_X4_⟩
                        have hb0_ := hall 0 (by kernel_rfl)
                        have hb1_ := hall 1 (by kernel_rfl)
                        have hb2_ := hall 2 (by kernel_rfl)
                        have hb3_ := hall 3 (by kernel_rfl)
                        have hb4_ := hall 4 (by kernel_rfl)
                        have hb5_ := hall 5 (by kernel_rfl)
                        subst ha
                        obtain rfl := Q_X3_ hb3_
                        obtain rfl := Q_X4_ hb4_
                        simp only [putSel, hb0_, hb1_, hb2_, hb3_, hb4_, hb5_, if_true, Act.put, List.setIfInBounds_toArray, List.set_cons_zero, List.set_cons_succ]
                        clear Q_TW
                        clear Q_GB
                        clear Q_PW
                        have TZ := Aside0.mk (Q_TZ hb5_)
                        clear Q_TZ
                        clear hall hb0_ hb1_ hb2_ hb3_ hb4_ hb5_
                        have TZ2 := Go.Lib.hid TZ.out
                        rw [HST.out, HOU.out] at TZ2
                        clear HT_ HW_ hHeld H0 HBX HN hm HL Q_X3_ Q_X4_
                        go_wp2_with fail
                        go_meet
                        exact Go.Lib.hid (by rw [hz.out]; exact TZ2.out)
                | false =>
                  have hz := Go.Lib.hid (show z2 = z by rw [HZE.out]; rfl)
                  clear HZE
                  go_wp2_with fail
                  go_meet
                  exact Go.Lib.hid (by rw [hz.out]; exact HIN.out)
              case rest =>
                have hI5 := hcut
                clear hcut HIN HZE hI3
                obtain ⟨ee, hee⟩ : ∃ ee, ee = endsR t z2.1 := ⟨_, rfl⟩
                have HEL := Go.Lib.hid (show ee.1 ≤ z2.1.length by rw [hee]; exact ends_le t z2.1)
                have HET := Go.Lib.hid (show ee.2 = true → ee.1 < z2.1.length by rw [hee]; exact ends_lt t z2.1)
                obtain ⟨z3, hz3⟩ : ∃ z3, z3 = shutL t ee.1 z2 := ⟨_, rfl⟩
                have HZ3 := Go.Lib.hid hz3
                have HS3 := Go.Lib.hid (show sz z3 ≤ 46001 by rw [hz3, sz_shut t _ z2 HEL.out]; exact HBD2.out)
                obtain ⟨z4, hz4⟩ : ∃ z4 : St, z4 = (if ee.2 = true then z3.1.tail else z3.1, z3.2) := ⟨_, rfl⟩
                rw [← hee, ← hz3] at HRS
                have HRT : Hid (restL fb t z = (if isB t 5 [40] || isB t 5 [123] then (0, ⟨#[]⟩) :: z4.1 else z4.1, z4.2 ++ [t])) := Go.Lib.hid (by rw [HRS.out, hz4])
                clear HRS
                have HS4 := Go.Lib.hid (show sz z4 ≤ 46001 by
                  have h1 := HS3.out
                  rw [hz4]
                  unfold sz at *
                  dsimp only
                  split
                  · rw [List.length_tail]; omega
                  · omega)
                obtain ⟨As, cs, Ao, co, hT6⟩ := hI5.out
                obtain ⟨ns, hns⟩ : ∃ ns, ns = z2.1.reverse.length := ⟨_, rfl⟩
                have c0 : wc.cell? ⟨gs, 0, none⟩ = some (.slice As ns cs) := by have h_ := hT6.cS; rw [HMM.out.hs, ← hns] at h_; exact h_
                have ⟨b0, b1, b2, b3, b4⟩ := box_of (HBX.out _ _ _ _ _ _ _ hT6)
                have HEN := Go.Lib.hid (ends_calls hT6 (by rw [List.length_reverse]; have h1 := HBD2.out; unfold sz at h1; omega) t)
                rw [← hns, List.reverse_reverse, ← hee] at HEN
                have he1 : (ee.1 : Int) ≤ 46001 := by have h1 := HBD2.out; have h2 := HEL.out; unfold sz at h1; omega
                have HZ4 := Go.Lib.hid hz4
                clear hee hz3 hz4 hT6 hns
                obtain ⟨em, eb⟩ := ee
                go_wp2_with fail
                refine HEN.out.mono ?_
                rintro e w6 ⟨rfl, hb6⟩
                have hI6 := Go.Lib.hid (hI5.out.up hb6)
                clear HEN hb6 hI5 c0 b0 b1 b2 b3 b4
                obtain ⟨As6, cs6, Ao6, co6, hT6⟩ := hI6.out
                have ⟨b0, b1, b2, b3, b4⟩ := box_of (HBX.out _ _ _ _ _ _ _ hT6)
                have HCL := Go.Lib.hid (cl17x HMM.out t em hI6.out HEL.out (by have := HBD2.out; omega))
                have HZ3 : Hid (z3 = shutL t em z2) := HZ3
                rw [← HZ3.out] at HCL
                clear hT6
                go_wp2_with fail
                refine HCL.out.mono ?_
                rintro e w7 ⟨rfl, hI7⟩
                have hI7 : Hid (TwoE pm z3.1.reverse z3.2 w7) := Go.Lib.hid hI7
                clear HCL hI6 b0 b1 b2 b3 b4
                go_upto_if 190 with fail
                go_cut [] from 191 to 195 (fun wx => Hid (TwoE pm z4.1.reverse z4.2 wx))
                case first =>
                  cases eb with
                  | false =>
                    have hz := Go.Lib.hid (show z4 = z3 by rw [HZ4.out]; rfl)
                    go_wp2_with fail
                    go_meet
                    exact Go.Lib.hid (by rw [hz.out]; exact hI7.out)
                  | true =>
                    have HET : Hid (em < z2.1.length) := Go.Lib.hid (HET.out rfl)
                    obtain ⟨zc, zr, hzr⟩ : ∃ zc zr, z3.1 = zc :: zr := by
                      have h1 : 0 < z3.1.length := by rw [HZ3.out]; unfold shutL; have := HET.out; simp; omega
                      match h : z3.1 with
                      | [] => rw [h] at h1; simp at h1
                      | c :: r => exact ⟨c, r, rfl⟩
                    have hz := Go.Lib.hid (show z4 = (zr, z3.2) by rw [HZ4.out, if_pos rfl, hzr]; rfl)
                    obtain ⟨As2, cs2, Ao2, co2, hT4⟩ := hI7.out
                    rw [hzr, List.reverse_cons] at hT4
                    obtain ⟨gq, rfl, _, _⟩ := hT4.atS (snoc_at zr.reverse zc)
                    obtain ⟨mm, hm0⟩ : ∃ mm, mm = (zr.reverse ++ [zc]).length := ⟨_, rfl⟩
                    obtain ⟨jj, hj0⟩ : ∃ jj, jj = zr.reverse.length := ⟨_, rfl⟩
                    have hmj : (mm : Int) - 1 = (jj : Int) := by rw [hm0, hj0]; simp
                    have hj1 : (jj : Int) < (mm : Int) := by omega
                    have hlen : mm < 1000000 := by
                      have h1 := HS3.out; unfold sz at h1; rw [hzr, List.length_cons] at h1
                      rw [hm0]; simp; omega
                    have hw : IntKind.i64.wrap ((mm : Int) - 1) = (jj : Int) := by rw [IntKind.wrap_i64]; omega
                    have hp0 : (0 : Int) ≤ (jj : Int) := by omega
                    have hcap : mm ≤ cs2 := by rw [hm0]; exact own_cap hT4.rS
                    have hcap2 : (jj : Int) ≤ (cs2 : Int) := by omega
                    have hc8 : w7.cell? ⟨gs, 0, none⟩ = some (.slice (some ⟨gq, 0, none⟩) mm cs2) := by have h_ := hT4.cS; rw [HMM.out.hs, ← hm0] at h_; exact h_
                    have hf8 : w7.frozen? ⟨gs, 0, none⟩ = false := by have h_ := hT4.fS; rw [HMM.out.hs] at h_; exact h_
                    have hI4 := Go.Lib.hid (show TwoE pm zr.reverse z3.2 (w7.setCell ⟨gs, 0, none⟩ (.slice (some ⟨gq, 0, none⟩) jj cs2)) from by
                      have h_ := hT4.pop
                      rw [HMM.out.hs, ← hj0] at h_
                      exact ⟨_, _, _, _, h_⟩)
                    have hcut := cut_to (P := Try.prog) 44 48 .i64 Try.underlying44 info48'.choose_spec (some ⟨gq, 0, none⟩) mm cs2 (jj : Int) hp0 (by omega) hcap
                    rw [Int.toNat_natCast] at hcut
                    clear hT4 hm0 hj0 hmj hcap hlen hI7
                    go_wp2_with fail
                    go_meet
                    exact Go.Lib.hid (by rw [hz.out]; exact hI4.out)
                case rest =>
                  have hI8 := hcut
                  clear hcut hI7
                  obtain ⟨As7, cs7, Ao7, co7, hT7⟩ := hI8.out
                  have ⟨b0, b1, b2, b3, b4⟩ := box_of (HBX.out _ _ _ _ _ _ _ hT7)
                  obtain ⟨n, hn⟩ : ∃ n, n = z4.2.length := ⟨_, rfl⟩
                  have c0 : wc.cell? ⟨go, 0, none⟩ = some (.slice Ao7 n co7) := by have h_ := hT7.cO; rw [HMM.out.ho, ← hn] at h_; exact h_
                  have hrO := Go.Lib.hid (show wc.ownsRow pm.w0.heap.size 27 5 (.slice Ao7 n co7) n (z4.2.flatMap cT) from by have h_ := hT7.rO; rw [← hn] at h_; exact h_)
                  have hbl := Go.Lib.hid hT7.below
                  have HTT := Go.Lib.hid hT7
                  have HN := Go.Lib.hid hn
                  have hn2 : n < 1000000 := by have h1 := HS4.out; unfold sz at h1; omega
                  clear hn hT7 hI8
                  go_upto_region 47 with ((with_reducible refine gate_builtin (b := .append) (xs := #[.tmp 196, .tmp 198]) rfl ?_); at_builtin; refine print_append_cells (w0 := pm.w0) pm.w0.heap.size rfl (.tmp 196) (.tmp 198) 22 27 (.agg #[.int .i64 0, .string ⟨#[]⟩, .int .i64 0, .int .i64 0, .int .i64 0]) 5 48 rfl Try.underlying22 info27 rfl (by decide) (by decide) (.slice Ao7 n co7) n (z4.2.flatMap cT) (cT t) rfl (by first | rfl | (go_simp; done) | (go_simp; rfl)) rfl ?q0 ?q1 ?q2 ?q3 ?q4 ?_; (case q0 => exact cT_one _); (case q1 => exact hrO.out); (case q2 => exact hbl.out); (case q3 => exact hbl.out.size); (case q4 => omega); intro v1 w11 ho9 hb9 hg9 hat9; obtain ⟨A9, c9, rfl⟩ := own_slice ho9; have HPO := Go.Lib.hid (show PendO pm As7 cs7 z4.1.reverse Ao7 co7 z4.2 t (.slice A9 (n + 1) c9) w11 from ⟨_, HTT.out, by rw [← HN.out]; exact ho9, by rw [← HN.out]; exact hg9, by rw [← HN.out]; exact hat9⟩); have y0 : w11.cell? ⟨go, 0, none⟩ = some (.slice Ao7 n co7) := (by have h_ := HPO.out.home.cell; rw [HMM.out.ho, ← HN.out] at h_; exact h_); have y1 : w11.frozen? ⟨go, 0, none⟩ = false := (by have h_ := HPO.out.home.free; rw [HMM.out.ho] at h_; exact h_); clear ho9 hb9 hg9 hat9)
                  have hI9 := Go.Lib.hid (show TwoE pm z4.1.reverse (z4.2 ++ [t]) (w11.setCell ⟨go, 0, none⟩ (.slice A9 (n + 1) c9)) from by
                    have h := HPO.out.store
                    rw [HMM.out.ho] at h
                    exact h)
                  clear c0 b0 b1 b2 b3 b4 hrO hbl HTT HPO y0 y1
                  generalize w11.setCell ⟨go, 0, none⟩ (.slice A9 (n + 1) c9) = w12 at *
                  obtain ⟨As9, cs9, Ao9, co9, hT9⟩ := hI9.out
                  have ⟨b0, b1, b2, b3, b4⟩ := box_of (HBX.out _ _ _ _ _ _ _ hT9)
                  clear hT9 b2 b3 b4
                  go_cut [212] from 200 to 211 (fun s212 wx => s212 = .bool (isB t 5 [40] || isB t 5 [123]) ∧ Hid (TwoE pm z4.1.reverse (z4.2 ++ [t]) wx))
                  case first =>
                    by_cases h5 : t.f0 = 5
                    · have h5' : (t.f0 == 5) = true := by simp [h5]
                      by_cases h40 : t.f1.toList = [40]
                      · have h40' : (t.f1.toList == [40]) = true := by simp [h40]
                        have hf := Go.Lib.hid (show (isB t 5 [40] || isB t 5 [123]) = true by simp [isB, h5, h40])
                        clear h5 h40
                        go_wp2_with fail
                        go_meet
                        exact ⟨by rw [hf.out], hI9⟩
                      · have h40' : (t.f1.toList == [40]) = false := by simp [h40]
                        have hf := Go.Lib.hid (show (isB t 5 [40] || isB t 5 [123]) = (t.f1.toList == [123]) by simp [isB, h5, h40])
                        clear h5 h40
                        go_wp2_with fail
                        go_meet
                        exact ⟨by rw [hf.out], hI9⟩
                    · have h5' : (t.f0 == 5) = false := by simp [h5]
                      have hf := Go.Lib.hid (show (isB t 5 [40] || isB t 5 [123]) = false by simp [isB, h5])
                      clear h5
                      go_wp2_with fail
                      go_meet
                      exact ⟨by rw [hf.out], hI9⟩
                  case rest =>
                    obtain ⟨rfl, hIa⟩ := hcut
                    clear hI9 b0 b1
                    generalize (isB t 5 [40] || isB t 5 [123]) = q at *
                    have HNX := Go.Lib.hid (show sz (restL fb t z) ≤ 5 * (i + 1) from by
                      have h1 := sz_restL fb t z
                      have h2 := HSZ.out
                      have h3 := hZ.out
                      omega)
                    cases q with
                    | false =>
                      have hr := Go.Lib.hid (show restL fb t z = (z4.1, z4.2 ++ [t]) by rw [HRT.out]; rfl)
                      go_wp2_with fail
                      go_roundg (gk - 1)
                      case measure => have := hi.out; have := HLT.out; omega
                      case rel => exact ⟨i + 1, restL fb t z, Go.Lib.hid (by have := hi.out; have := HLT.out; omega), by go_num, Go.Lib.hid (by rw [hr.out]; exact HDN.out _ _ _ hIa.out), HF, HNX⟩
                    | true =>
                      have hr := Go.Lib.hid (show restL fb t z = ((0, ⟨#[]⟩) :: z4.1, z4.2 ++ [t]) by rw [HRT.out]; rfl)
                      obtain ⟨As, cs, Ao, co, hT17⟩ := hIa.out
                      obtain ⟨ns, hns⟩ : ∃ ns, ns = z4.1.reverse.length := ⟨_, rfl⟩
                      have c0 : wc.cell? ⟨gs, 0, none⟩ = some (.slice As ns cs) := by have h_ := hT17.cS; rw [HMM.out.hs, ← hns] at h_; exact h_
                      have hrS := Go.Lib.hid (show wc.ownsRow pm.w0.heap.size 48 2 (.slice As ns cs) ns (z4.1.reverse.flatMap cF) from by have h_ := hT17.rS; rw [← hns, HMM.out.es] at h_; exact h_)
                      have hbl := Go.Lib.hid hT17.below
                      have HTT := Go.Lib.hid hT17
                      have HNS := Go.Lib.hid hns
                      have hn3 : ns < 1000000 := by rw [hns, List.length_reverse]; have h1 := HS4.out; unfold sz at h1; omega
                      clear hT17 hns
                      go_wp2_with ((with_reducible refine gate_builtin (b := .append) (xs := #[.tmp 213, .tmp 215]) rfl ?_); at_builtin; refine print_append_cells (w0 := pm.w0) pm.w0.heap.size rfl (.tmp 213) (.tmp 215) 44 48 (.agg #[.int .i64 0, .string ⟨#[]⟩]) 2 24 rfl Try.underlying44 info48 rfl (by decide) (by decide) (.slice As ns cs) ns (z4.1.reverse.flatMap cF) (cF (0, ⟨#[]⟩)) rfl (by first | rfl | (go_simp; done) | (go_simp; rfl)) rfl ?q0 ?q1 ?q2 ?q3 ?q4 ?_; (case q0 => exact cF_one _); (case q1 => exact hrS.out); (case q2 => exact hbl.out); (case q3 => exact hbl.out.size); (case q4 => omega); intro v1 w21 ho9 hb9 hg9 hat9; obtain ⟨Ab, cb, rfl⟩ := own_slice ho9; have HPS := Go.Lib.hid (show PendS pm As cs z4.1.reverse Ao co (z4.2 ++ [t]) (0, ⟨#[]⟩) (.slice Ab (ns + 1) cb) w21 from ⟨_, HTT.out, by rw [← HNS.out, HMM.out.es]; exact ho9, by rw [← HNS.out]; exact hg9, by rw [← HNS.out]; exact hat9⟩); have y0 : w21.cell? ⟨gs, 0, none⟩ = some (.slice As ns cs) := (by have h_ := HPS.out.home.cell; rw [HMM.out.hs, ← HNS.out] at h_; exact h_); have y1 : w21.frozen? ⟨gs, 0, none⟩ = false := (by have h_ := HPS.out.home.free; rw [HMM.out.hs] at h_; exact h_); clear ho9 hb9 hg9 hat9)
                      have hIb := Go.Lib.hid (show TwoE pm (((0, ⟨#[]⟩) :: z4.1) : List Fr).reverse (z4.2 ++ [t]) (w21.setCell ⟨gs, 0, none⟩ (.slice Ab (ns + 1) cb)) from by
                        have h := HPS.out.store
                        rw [HMM.out.hs] at h
                        rw [List.reverse_cons]; exact h)
                      clear HPS y0 y1
                      go_roundg (gk - 1)
                      case measure => have := hi.out; have := HLT.out; omega
                      case rel => exact ⟨i + 1, restL fb t z, Go.Lib.hid (by have := hi.out; have := HLT.out; omega), by go_num, Go.Lib.hid (by rw [hr.out]; exact HDN.out _ _ _ hIb.out), HF, HNX⟩
    · have h0 : gk = 0 := by have := hi.out; omega
      have hlt' : decide ((i : Int) < (l.length : Int)) = false := decide_eq_false (by omega)
      have hltn : decide (i < l.length) = false := decide_eq_false hlt
      subst h0
      obtain ⟨As, cs, Ao, co, hT2⟩ := hT.out
      have hc0 := hT2.cO
      rw [HM.out.ho] at hc0
      have hx : x.2 = layL l := hS.out
      have HE := Go.Lib.hid (show wr.ownsRow w.heap.size 27 5 (.slice Ao (layL l).length co) (layL l).length ((layL l).flatMap cT) ∧ Below w.heap.size w wr from by
        have h1 := hT2.rO
        have h2 := hT2.below
        rw [HP0.out, hx] at h1
        rw [HP0.out] at h2
        exact ⟨h1, h2⟩)
      rw [hx] at hc0
      clear hT2 hx hlt
      go_wp2_with fail
      go_ret
      exact ⟨⟨_, _, rfl, HE.out.1⟩, HE.out.2⟩
end Go.Proofs.Ytchbjjefjmcakaa.Lb
