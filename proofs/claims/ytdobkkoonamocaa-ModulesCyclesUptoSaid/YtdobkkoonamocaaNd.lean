import Derived.Test.YtdobkkoonamocaaMd
import Derived.Test.YtdobkkoonamocaaNp
namespace Go.Proofs.Ytdobkkoonamocaa.Mo
open Go.RowKit Go.Proofs.Ytdobkkoonamocaa.PModulesOrdered Go.Proofs.YtdobkkoonamocaaW.PrintWords Go.Proofs.YtdobkkoonamocaaW.PrintLast Go.Proofs.YtdobkkoonamocaaW.PrintMore
set_option linter.unusedVariables false
set_option linter.unusedSimpArgs false
/-- Reaches: the matrix is closed. -/
def ReachPost2 (N : List ByteArray) (I : List (List ByteArray)) (w : World) (e : Ending) (w' : World) : Prop :=
  ∃ (mb : Nat) (rb : Nat → Nat) (M : Nat → Nat → Bool), e = .returned (.slice (some ⟨mb, 0, none⟩) N.length N.length) ∧ Mtx w' w.heap.size mb N.length N.length rb M ∧ MatOk N.length (nm N) (im I) M ∧ ClM N.length N.length M

set_option maxHeartbeats 8000000 in
set_option maxRecDepth 100000 in
theorem reaches_full (N : List ByteArray) (I : List (List ByteArray)) (A0 A1 : Option Addr) (c0 c1 : Nat) (w : World) (hN : N.length ≤ 16) (hI : I.length = N.length) (hl : ∀ l ∈ I, l.length < LIM) (hr0 : Kd.C Kd.string w A0 N.length N) (hc0 : N.length ≤ c0) (hr1 : Kd.C (Kd.slice 9 Kd.string) w A1 I.length I) (hc1 : I.length ≤ c1) :
    Calls Try.prog 13 #[.slice A0 N.length c0, .slice A1 I.length c1] w fun e w' => ReachPost2 N I w e w' ∧ Below w.heap.size w w' := by
  have HR0 := Go.Lib.hid hr0
  have HR1 := Go.Lib.hid hr1
  have HL := Go.Lib.hid hl
  have HI := Go.Lib.hid hI
  have hn : (N.length : Int) ≤ 16 := by omega
  have hn0 : (0 : Int) ≤ (N.length : Int) := by omega
  have hm1 := print_make_of (P := Try.prog) 35 37 (.slice none 0 0) 24 Try.underlying35 inf37 rfl (by decide) N.length (by omega)
  have hm2 := print_make_of (P := Try.prog) 37 4 (.bool false) 1 Try.underlying37 inf4 rfl (by decide) N.length (by omega)
  clear hr0 hr1 hl hI
  go_enter Try.func13, Try.ntmps13
  go_wp2_with fail
  have hM0 : Hid (Mtx (w.alloc (.cells (madeCells #[.slice none 0 0] N.length) 37)) w.heap.size w.heap.size N.length 0 (fun _ => 0) (fun _ _ => false)) := Go.Lib.hid ⟨(World.rowIs_made w (.slice none 0 0) N.length 37).congr fun i _ => by rw [if_neg (by omega)], fun i hi => by omega, fun i j hi => by omega, Nat.le_refl _⟩
  obtain ⟨mb, hmb⟩ : ∃ mb, mb = w.heap.size := ⟨_, rfl⟩
  rw [show Mtx (w.alloc (.cells (madeCells #[.slice none 0 0] N.length) 37)) w.heap.size w.heap.size = Mtx (w.alloc (.cells (madeCells #[.slice none 0 0] N.length) 37)) w.heap.size mb by rw [hmb]] at hM0
  simp only [← hmb]
  have hB0 : Hid (Below w.heap.size w (w.alloc (.cells (madeCells #[.slice none 0 0] N.length) 37))) := Go.Lib.hid (below_alloc (Below.refl _ _) _)
  generalize w.alloc (.cells (madeCells #[.slice none 0 0] N.length) 37) = w1 at *
  have HMB := Go.Lib.hid hmb
  clear hmb
  go_loopg [18] N.length (fun k v18 wr => ∃ (i : Nat) (rb : Nat → Nat) (M : Nat → Nat → Bool), Hid (i + k = N.length) ∧ v18 = .int .i64 i ∧ Hid (Mtx wr w.heap.size mb N.length i rb M) ∧ Hid (∀ a b, a < i → b < N.length → M a b = Dir N I a b) ∧ Hid (Below w.heap.size w wr))
  case atStart => exact ⟨0, _, _, Go.Lib.hid (by omega), rfl, hM0, Go.Lib.hid (fun a b h => by omega), hB0⟩
  case round =>
    obtain ⟨i, rb, M, hi, rfl, hM, hD, hb⟩ := hrel
    by_cases hlt : i < N.length
    · have hlt' : (i : Int) < (N.length : Int) := by omega
      have k0 : ∀ o, (wr.alloc o).cell? ⟨mb, i, none⟩ = some (.slice none 0 0) := fun o => by
        have h := (hM.out.outer.alloc o).cell hlt
        rwa [if_neg (by omega)] at h
      have f0 : ∀ o, (wr.alloc o).frozen? ⟨mb, i, none⟩ = false := fun o => (hM.out.outer.alloc o).frozen i
      have hM1 := Go.Lib.hid (hM.out.more hb.out.size)
      have hB1 := Go.Lib.hid (show Below w.heap.size w ((wr.alloc (.cells (madeCells #[.bool false] N.length) 4)).setCell ⟨mb, i, none⟩ (.slice (some ⟨wr.heap.size, 0, none⟩) N.length N.length)) from (below_alloc hb.out _).setCell (p := ⟨mb, i, none⟩) hM.out.base _)
      have hD1 := Go.Lib.hid (show ∀ a b, a < i → b < N.length → (fun x y => if x = i then false else M x y) a b = Dir N I a b from fun a b ha hb => by simp only [if_neg (show ¬ a = i by omega)]; exact hD.out a b ha hb)
      have HLT := Go.Lib.hid hlt
      clear hlt
      go_wp2_with fail
      generalize ((wr.alloc (.cells (madeCells #[.bool false] N.length) 4)).setCell ⟨mb, i, none⟩ (.slice (some ⟨wr.heap.size, 0, none⟩) N.length N.length)) = w2 at *
      obtain ⟨rb1, hrb1⟩ : ∃ rb1, rb1 = (fun x => if x = i then wr.heap.size else rb x) := ⟨_, rfl⟩
      rw [← hrb1] at hM1
      clear hrb1 k0 f0
      have HD1 := hD1
      clear hD1 hM hD hb
      go_loopg [31] N.length (fun k v31 wr => ∃ (j : Nat) (M1 : Nat → Nat → Bool), Hid (j + k = N.length) ∧ v31 = .int .i64 j ∧ Hid (Mtx wr w.heap.size mb N.length (i + 1) rb1 M1) ∧ Hid (∀ a b, (a < i ∨ (a = i ∧ b < j)) → b < N.length → M1 a b = Dir N I a b) ∧ Hid (Below w.heap.size w wr))
      case atStart => exact ⟨0, _, Go.Lib.hid (by omega), rfl, hM1, Go.Lib.hid (fun a b h hb => HD1.out a b (by omega) hb), hB1⟩
      case round =>
        clear hM1 HD1 hB1
        obtain ⟨j, M1, hj, rfl, hM, hD, hb⟩ := hrel
        by_cases hlt2 : j < N.length
        · have hlt2' : (j : Int) < (N.length : Int) := by omega
          have hiI : (i : Int) < (I.length : Int) := by have := HI.out; have := HLT.out; omega
          obtain ⟨ad0, rfl, x0⟩ := at_S HR0.out hlt2
          obtain ⟨ad1, A2, c2, rfl, x1, hc2, hC2⟩ := at_L1 HR1.out (i : Int) (by omega) hiI
          rw [Int.toNat_natCast] at x1
          have hrow := hM.out.row (Nat.lt_succ_self i) HLT.out
          have hbs := Go.Lib.hid ((hM.out.inner i (Nat.lt_succ_self i)).2.1)
          have hDn := Go.Lib.hid (fun a b (h : a < i ∨ (a = i ∧ b < j + 1)) (hb : b < N.length) => (by
            by_cases e : a = i ∧ b = j
            · obtain ⟨rfl, rfl⟩ := e; rw [upd_same]
            · rw [upd_other e]; exact hD.out a b (by omega) hb : upd M1 i j (Dir N I i j) a b = Dir N I a b))
          have hme : rd_L1 I (i : Int) ∈ I := by rw [rd_L1_get (by omega)]; exact List.getElem_mem _
          have hlI := Go.Lib.hid (HL.out _ hme)
          have HC2 := Go.Lib.hid hC2
          rw [show Dir N I i j = hasB (rd_L1 I (i : Int)) (sx N (j : Int)) from rfl] at hDn
          generalize rd_L1 I (i : Int) = l at *
          generalize sx N (j : Int) = s at *
          have K0 : Hid (Below w.heap.size w wr.drew) := Go.Lib.hid (below_drew1 hb.out)
          have HX := Go.Lib.hid (fun (w' : World) (h : Hid (Below w.heap.size w w')) (hr : w'.cell? ⟨mb, i, none⟩ = some (.slice (some ⟨rb1 i, 0, none⟩) N.length N.length)) => s10 hr x1 x0 h)
          have hrow0 : wr.drew.cell? ⟨mb, i, none⟩ = some (.slice (some ⟨rb1 i, 0, none⟩) N.length N.length) := hrow
          have hMd : Hid (Mtx wr.drew w.heap.size mb N.length (i + 1) rb1 M1) := Go.Lib.hid (hM.out.below (below_drew1 (Below.refl _ _)))
          have HLT2 := Go.Lib.hid hlt2
          clear hlt2 hme hC2 hrow
          go_wp2_with fail
          go_region_held3 (fun w' => w'.cell? ⟨mb, i, none⟩ = some (.slice (some ⟨rb1 i, 0, none⟩) N.length N.length) ∧ w'.cell? (ad1.add i) = some (.slice A2 l.length c2) ∧ w'.cell? (ad0.add j) = some (.string s) ∧ Hid (Below w.heap.size w w')) (first | exact HX.out _ hNewS ((hMn.out.put (Nat.lt_succ_self i) j (hasB l s)).row (Nat.lt_succ_self i) HLT.out) | exact HX.out _ hNew (hMn.out.row (Nat.lt_succ_self i) HLT.out) | exact HX.out _ K0 hrow0) (first
            | (go_at_call 20; refine (has_calls l s A2 c2 _ hlI.out (Kd.C_below HC2.out (‹_ ∧ _ ∧ _ ∧ Hid (Below w.heap.size w _)›).2.2.2.out) hc2).mono ?_; rintro e wn ⟨rfl, hbn⟩; have hMn := Go.Lib.hid (hMd.out.below hbn.below); have hNew := Go.Lib.hid (K0.out.trans (hbn.below.mono K0.out.size)); clear hbn; have y0 := hMn.out.at_ (Nat.lt_succ_self i) HLT2.out; have y1 := hMn.out.free (Nat.lt_succ_self i) j; have hNewS := Go.Lib.hid (hNew.out.setCell (p := ⟨rb1 i, j, none⟩) hbs.out (.bool (hasB l s)))))
          go_wp2_with fail
          go_roundg (gk - 1)
          case measure => have := hj.out; have := HLT2.out; omega
          case rel => exact ⟨j + 1, _, Go.Lib.hid (by have := hj.out; have := HLT2.out; omega), by go_num, Go.Lib.hid (hMn.out.put (Nat.lt_succ_self i) j (hasB l s)), hDn, hNewS⟩
        · have hlt2' : ¬ (j : Int) < (N.length : Int) := by omega
          have hDf := Go.Lib.hid (fun a b (h : a < i + 1) (hb : b < N.length) => hD.out a b (by omega) hb)
          clear hlt2
          go_wp2_with fail
          go_roundg (N.length - (i + 1))
          case measure => have := hi.out; have := HLT.out; omega
          case rel => exact ⟨i + 1, rb1, M1, Go.Lib.hid (by have := HLT.out; omega), by go_num, hM, hDf, hb⟩
    · have hlt' : ¬ (i : Int) < (N.length : Int) := by omega
      have hMf : Hid (Mtx wr w.heap.size mb N.length N.length rb M ∧ MatOk N.length (nm N) (im I) M) := Go.Lib.hid (by
        obtain rfl : i = N.length := by have := hi.out; omega
        exact ⟨hM.out, fun a b ha hb h => by rw [hD.out a b ha hb]; exact dir_iff.2 h, fun a b ha hb h => .one hb (dir_iff.1 (by rw [← hD.out a b ha hb]; exact h))⟩)
      clear hlt hM hD hi
      go_wp2_with fail
      go_loopg [53] N.length (fun k v53 wr => ∃ (c : Nat) (rb : Nat → Nat) (M : Nat → Nat → Bool), Hid (c + k = N.length) ∧ v53 = .int .i64 c ∧ Hid (Mtx wr w.heap.size mb N.length N.length rb M ∧ MatOk N.length (nm N) (im I) M) ∧ Hid (WS N.length c 0 0 M) ∧ Hid (Below w.heap.size w wr))
      case atStart => exact ⟨0, _, _, Go.Lib.hid (by omega), rfl, hMf, Go.Lib.hid (WS.start _ _), hb⟩
      case round =>
        clear hMf hb
        obtain ⟨c, rb, M, hc, rfl, hM, hW, hb⟩ := hrel
        by_cases hlc : c < N.length
        · have hlc' : (c : Int) < (N.length : Int) := by omega
          have HLC := Go.Lib.hid hlc
          clear hlc
          go_wp2_with fail
          go_loopg [58] N.length (fun k v58 wr => ∃ (i : Nat) (rb : Nat → Nat) (M : Nat → Nat → Bool), Hid (i + k = N.length) ∧ v58 = .int .i64 i ∧ Hid (Mtx wr w.heap.size mb N.length N.length rb M ∧ MatOk N.length (nm N) (im I) M) ∧ Hid (WS N.length c i 0 M) ∧ Hid (Below w.heap.size w wr))
          case atStart => exact ⟨0, _, _, Go.Lib.hid (by omega), rfl, hM, hW, hb⟩
          case round =>
            clear hM hW hb
            obtain ⟨i, rb, M, hi, rfl, hM, hW, hb⟩ := hrel
            by_cases hli : i < N.length
            · have hli' : (i : Int) < (N.length : Int) := by omega
              have HLI := Go.Lib.hid hli
              clear hli
              go_wp2_with fail
              go_loopg [63] N.length (fun k v63 wr => ∃ (j : Nat) (rb : Nat → Nat) (M : Nat → Nat → Bool), Hid (j + k = N.length) ∧ v63 = .int .i64 j ∧ Hid (Mtx wr w.heap.size mb N.length N.length rb M ∧ MatOk N.length (nm N) (im I) M) ∧ Hid (WS N.length c i j M) ∧ Hid (Below w.heap.size w wr))
              case atStart => exact ⟨0, _, _, Go.Lib.hid (by omega), rfl, hM, hW, hb⟩
              case round =>
                clear hM hW hb
                obtain ⟨j, rb, M, hj, rfl, hM, hW, hb⟩ := hrel
                by_cases hlj : j < N.length
                · have hlj' : (j : Int) < (N.length : Int) := by omega
                  have r1 := hM.out.1.row HLI.out HLI.out
                  have r2 := hM.out.1.row HLC.out HLC.out
                  have a1 := hM.out.1.at_ HLI.out HLC.out
                  have a2 := hM.out.1.at_ HLC.out hlj
                  have a3 := hM.out.1.at_ HLI.out hlj
                  have f3 := hM.out.1.free HLI.out j
                  have HLJ := Go.Lib.hid hlj
                  have hW1 := Go.Lib.hid (show (M i c && M c j) = true → WS N.length c i (j + 1) (upd M i j true) from fun h => hW.out.set HLC.out HLI.out HLJ.out h)
                  have hW2 := Go.Lib.hid (show (M i c && M c j) = false → WS N.length c i (j + 1) M from fun h => hW.out.skip HLC.out HLI.out HLJ.out h)
                  have hst := Go.Lib.hid (show M i c = true → M c j = true → Mtx (wr.setCell ⟨rb i, j, none⟩ (.bool true)) w.heap.size mb N.length N.length rb (upd M i j true) ∧ MatOk N.length (nm N) (im I) (upd M i j true) from fun h1 h2 => ⟨hM.out.1.put HLI.out j true, fun a b ha hb h => by
                      by_cases e : a = i ∧ b = j
                      · obtain ⟨rfl, rfl⟩ := e; rw [upd_same]
                      · rw [upd_other e]; exact hM.out.2.1 a b ha hb h, fun a b ha hb h => by
                      by_cases e : a = i ∧ b = j
                      · obtain ⟨rfl, rfl⟩ := e
                        exact .two (hM.out.2.2 _ _ HLI.out HLC.out h1) (hM.out.2.2 _ _ HLC.out HLJ.out h2)
                      · rw [upd_other e] at h; exact hM.out.2.2 a b ha hb h⟩)
                  have hbs := Go.Lib.hid (show Below w.heap.size w (wr.setCell ⟨rb i, j, none⟩ (.bool true)) from hb.out.setCell (p := ⟨rb i, j, none⟩) (hM.out.1.inner i HLI.out).2.1 _)
                  clear hlj
                  generalize hb1 : M i c = b1 at a1 hst hW1 hW2
                  generalize hb2 : M c j = b2 at a2 hst hW1 hW2
                  clear hb1 hb2
                  have hdec : (b1 = true ∧ b2 = true) ∨ (b1 = true ∧ b2 = false) ∨ b1 = false := by cases b1 <;> cases b2 <;> simp
                  rcases hdec with ⟨rfl, rfl⟩ | ⟨rfl, rfl⟩ | rfl
                  · have hst' := Go.Lib.hid (hst.out rfl rfl)
                    have hW' := Go.Lib.hid (hW1.out rfl)
                    clear hst hW1 hW2
                    go_wp2_with fail
                    go_roundg (gk - 1)
                    case measure => have := hj.out; have := HLJ.out; omega
                    case rel => exact ⟨j + 1, rb, _, Go.Lib.hid (by have := hj.out; have := HLJ.out; omega), by go_num, hst', hW', hbs⟩
                  · have hW' := Go.Lib.hid (hW2.out rfl)
                    clear hst hW1 hW2
                    go_wp2_with fail
                    go_roundg (gk - 1)
                    case measure => have := hj.out; have := HLJ.out; omega
                    case rel => exact ⟨j + 1, rb, M, Go.Lib.hid (by have := hj.out; have := HLJ.out; omega), by go_num, hM, hW', hb⟩
                  · have hW' := Go.Lib.hid (hW2.out rfl)
                    clear hst hW1 hW2
                    go_wp2_with fail
                    go_roundg (gk - 1)
                    case measure => have := hj.out; have := HLJ.out; omega
                    case rel => exact ⟨j + 1, rb, M, Go.Lib.hid (by have := hj.out; have := HLJ.out; omega), by go_num, hM, hW', hb⟩
                · have hlj' : ¬ (j : Int) < (N.length : Int) := by omega
                  have hW' := Go.Lib.hid (show WS N.length c (i + 1) 0 M from WS.row (by have h := hW.out; rw [show j = N.length by have := hj.out; omega] at h; exact h))
                  clear hlj
                  go_wp2_with fail
                  go_roundg (N.length - (i + 1))
                  case measure => have := hi.out; have := HLI.out; omega
                  case rel => exact ⟨i + 1, rb, M, Go.Lib.hid (by have := HLI.out; omega), by go_num, hM, hW', hb⟩
            · have hli' : ¬ (i : Int) < (N.length : Int) := by omega
              have hW' := Go.Lib.hid (show WS N.length (c + 1) 0 0 M from WS.round (by have h := hW.out; rw [show i = N.length by have := hi.out; omega] at h; exact h) HLC.out)
              clear hli
              go_wp2_with fail
              go_roundg (N.length - (c + 1))
              case measure => have := hc.out; have := HLC.out; omega
              case rel => exact ⟨c + 1, rb, M, Go.Lib.hid (by have := HLC.out; omega), by go_num, hM, hW', hb⟩
        · have hlc' : ¬ (c : Int) < (N.length : Int) := by omega
          have hW' := Go.Lib.hid (show ClM N.length N.length M from WS.done (by have h := hW.out; rw [show c = N.length by have := hc.out; omega] at h; exact h))
          clear hlc
          go_wp2_with fail
          go_ret
          exact ⟨⟨mb, rb, M, rfl, hM.out.1, hM.out.2, hW'.out⟩, hb.out⟩
end Go.Proofs.Ytdobkkoonamocaa.Mo
