import Derived.Test.YtjhinklijopobaaDoorFe
namespace Go.Proofs.YtjhinklijopobaaDoor.Co
open Go.RowKit Go.Proofs.YtjhinklijopobaaDoor.PCoreChecks Go.Proofs.YtjhinklijopobaaDoorW.PrintWords Go.Proofs.YtjhinklijopobaaDoorW.PrintLast Go.Proofs.YtjhinklijopobaaDoorW.PrintMore
set_option linter.unusedVariables false
set_option linter.unusedSimpArgs false

/-! ### The document's Below and Count -/
theorem info4 : (Tryd.prog.info? 4).map (fun i => (i.zero, i.size, i.bytes)) = some (some (.bool false), 1, 1) := by kernel_rfl
def RbP (t : List S28) (n : Nat) (w : World) (e : Ending) (w' : World) : Prop := ∃ g, e = .returned (.slice (some ⟨g, 0, none⟩) t.length t.length) ∧ BA w' g t.length (Bl t n) ∧ Below w.heap.size w w'
theorem RbP.mk {t : List S28} {n g : Nat} {w w' : World} (h : BA w' g t.length (Mk t n 0)) (hr : rB t = true) (hb : Below w.heap.size w w') : RbP t n w (.returned (.slice (some ⟨g, 0, none⟩) t.length t.length)) w' := ⟨g, rfl, h.congr (fun k => (Mk.done hr).symm), hb⟩
open Classical in
theorem marks_at (p : Nat → Prop) (k : Nat) : ∃ b : Bool, (b = true ↔ p k) := ⟨decide (p k), by simp⟩

set_option maxHeartbeats 8000000 in
set_option maxRecDepth 100000 in
theorem rbelow_calls (t : List S28) (htr : treeB t = true) (hn : t.length ≤ 4096) (n : Nat) (hnt : n < t.length) (A0 : Option Addr) (c0 : Nat) (w : World) (hr : Kd.C k28 w A0 t.length t) :
    Calls Tryd.prog 47 #[.slice A0 t.length c0, .int .i64 (n : Int)] w (RbP t n w) := by
  have HR := Go.Lib.hid hr
  have HRB := Go.Lib.hid (treeB_parts htr).2.1
  have HTR := Go.Lib.hid htr
  have ht9 : (t.length : Int) ≤ 4096 := by omega
  have HN := Go.Lib.hid hn
  have HNT := Go.Lib.hid hnt
  have hnt' : (n : Int) < (t.length : Int) := by omega
  have hn0 : (0 : Int) ≤ (n : Int) := by omega
  have hmk : ∀ W : World, (Instr.makeSlice 71 (.int .i64 (t.length : Int)) (.int .i64 (t.length : Int))).run Tryd.prog W = .ok (.slice (some ⟨W.heap.size, 0, none⟩) t.length t.length) (W.alloc (.cells (madeCells #[.bool false] t.length) 4)) := fun W =>
    run_make_row' 71 4 (.bool false) 1 Tryd.underlying71 info4 rfl .i64 .i64 t.length (by omega) (by omega) W
  obtain ⟨w1, hw1⟩ : ∃ w1, w1 = w.alloc (.cells (madeCells #[.bool false] t.length) 4) := ⟨_, rfl⟩
  have hB1 : BA w1 w.heap.size t.length (fun _ => False) := by rw [hw1]; exact BA.made w _
  have f1 := hB1.frozen n
  have HB2 := Go.Lib.hid (show BA (w1.setCell ⟨w.heap.size, n, none⟩ (.bool true)) w.heap.size t.length (Mk t n (n + 1)) from hB1.put n (by rw [Mk.start]; simp) (fun k hk => by rw [Mk.start]; simp [hk]))
  have HBL := Go.Lib.hid (show Below w.heap.size w (w1.setCell ⟨w.heap.size, n, none⟩ (.bool true)) by rw [hw1]; exact below_set (below_alloc (Below.refl _ _) _) (Nat.le_refl _))
  have hc1 : ∃ v, w1.cell? ⟨w.heap.size, n, none⟩ = some v := ⟨_, hB1.cell n hnt (b := false) (by simp)⟩
  obtain ⟨vv, hc1⟩ := hc1
  have HW1 := Go.Lib.hid hw1
  have hmk' : ∀ W : World, W = w → (Instr.makeSlice 71 (.int .i64 (t.length : Int)) (.int .i64 (t.length : Int))).run Tryd.prog W = .ok (.slice (some ⟨w.heap.size, 0, none⟩) t.length t.length) w1 := by
    rintro W rfl
    rw [HW1.out]; exact hmk W
  have hmk2 := hmk' w rfl
  clear hr htr hn hnt hB1 hw1 hmk hmk'
  go_enter Tryd.func47, Tryd.ntmps47
  go_wp2_with fail
  clear hmk2 hc1 f1
  go_loopg [6] (n + 1) (fun g_ v6 w' => ∃ a : Nat, Hid (a = g_) ∧ v6 = .int .i64 ((a : Int) - 1) ∧ Hid (a ≤ n + 1) ∧ Hid (BA w' w.heap.size t.length (Mk t n a)) ∧ Hid (Below w.heap.size w w'))
  case atStart => exact ⟨n + 1, Go.Lib.hid rfl, by congr 1; omega, Go.Lib.hid (Nat.le_refl _), HB2, HBL⟩
  case round =>
    clear HB2 HBL
    obtain ⟨a, ha, rfl, hal, hba, hbl⟩ := hrel
    obtain ⟨wo, hwo⟩ : ∃ wo : World, wo = wr := ⟨_, rfl⟩
    subst hwo
    obtain ⟨ga, hga⟩ : ∃ ga : Nat, ga = gk := ⟨_, rfl⟩
    subst hga
    cases a with
    | zero =>
      have e0 : (((0 : Nat) : Int) - 1) = -1 := rfl
      rw [e0]
      have HV := Go.Lib.hid (RbP.mk hba.out HRB.out hbl.out)
      clear ha hal e0
      go_wp2_with fail
      go_ret
      exact HV.out
    | succ i =>
      have e0 : (((i + 1 : Nat) : Int) - 1) = (i : Int) := by omega
      rw [e0]
      have HI := Go.Lib.hid (show i < t.length by have := hal.out; have := HNT.out; omega)
      have HIL := Go.Lib.hid (show i ≤ n by have := hal.out; omega)
      have hi0 : (0 : Int) ≤ (i : Int) := by omega
      have hlt' : (i : Int) < (t.length : Int) := by have := HI.out; omega
      have hd0 : decide ((0 : Int) ≤ (i : Int)) = true := decide_eq_true hi0
      obtain ⟨ad, A2, c2, A3, c3, A4, c4, e_, p0, p1, p2, p3, p4, l2, g2, l3, g3, l4, g4⟩ := at_T28 HR.out (i : Int) hi0 hlt'
      cases e_
      rw [rdT_nat t i HI.out] at p3 g3
      rw [Int.toNat_natCast] at p3
      replace p3 := pw_cell_below hbl.out p3
      have HKD := Go.Lib.hid (fun k (hk : k ∈ (t[i]'HI.out).f3) => badK_mem (rB_at HRB.out i HI.out) hk)
      have HKL := Go.Lib.hid (kids_len HTR.out HI.out)
      have HMS := Go.Lib.hid (fun (j : Nat) (hj : j < (t[i]'HI.out).f3.length) (c : Nat) (hc : (t[i]'HI.out).f3[j]'hj = (c : Int)) (k : Nat) => MkJ.succ (n := n) (k := k) HI.out hj hc)
      have HMD := Go.Lib.hid (fun (k : Nat) => MkJ.done (n := n) (k := k) HIL.out HI.out)
      have HMH := Go.Lib.hid (fun (j : Nat) => MkJ.here (n := n) (i := i) (j := j) HRB.out)
      generalize t[i]'HI.out = x at p3 g3 HKD HKL HMS HMD
      have HG3 := Go.Lib.hid g3
      have HB0 := Go.Lib.hid (hba.out.congr (q := MkJ t n i 0) (fun k => MkJ.start))
      have hk9 : (x.f3.length : Int) ≤ 4096 := by have := HKL.out; have := HI.out; have := HN.out; omega
      clear p0 p1 p2 p4 l2 g2 l3 g3 l4 g4 hba e0
      go_wp2_with fail
      clear p3
      go_loopg [26] x.f3.length (fun g_ v26 w' => ∃ j : Nat, Hid (j + g_ = x.f3.length) ∧ v26 = .int .i64 j ∧ Hid (BA w' w.heap.size t.length (MkJ t n i j)) ∧ Hid (Below w.heap.size w w'))
      case atStart => exact ⟨0, Go.Lib.hid (by omega), rfl, HB0, hbl⟩
      case round =>
        clear HB0 hbl
        obtain ⟨j, hj, rfl, hba, hbl⟩ := hrel
        obtain ⟨wi, hwi⟩ : ∃ wi : World, wi = wr := ⟨_, rfl⟩
        subst hwi
        by_cases hlt : j < x.f3.length
        · have hltj : (j : Int) < (x.f3.length : Int) := by omega
          have hj0 : (0 : Int) ≤ (j : Int) := by omega
          have HJ := Go.Lib.hid hlt
          obtain ⟨ad3, e_, q0⟩ := Kd.at_int (Kd.C_below HG3.out hbl.out) (j : Int) hj0 hltj
          cases e_
          rw [rd_nat x.f3 j hlt, Int.toNat_natCast] at q0
          obtain ⟨c, hc⟩ : ∃ c : Nat, x.f3[j]'hlt = (c : Int) := ⟨(x.f3[j]'hlt).toNat, by have := HKD.out _ (List.getElem_mem hlt); omega⟩
          have hcb := HKD.out _ (List.getElem_mem hlt)
          rw [hc] at q0 hcb
          have HS := Go.Lib.hid (HMS.out j hlt c hc)
          have hc0 : (0 : Int) ≤ (c : Int) := by omega
          have hcn : (c : Int) < (t.length : Int) := by have := HI.out; omega
          obtain ⟨b1, hb1⟩ := marks_at (MkJ t n i j) c
          obtain ⟨b2, hb2⟩ := marks_at (MkJ t n i j) i
          have z1 := hba.out.cell c (by omega) hb1
          have z2 := hba.out.cell i (by omega) hb2
          have y1 := hba.out.frozen c
          have HBP := Go.Lib.hid (show BA (wi.setCell ⟨w.heap.size, c, none⟩ (.bool (b1 || b2))) w.heap.size t.length (MkJ t n i (j + 1)) from hba.out.put c (by
            rw [Bool.or_eq_true, hb1, hb2, HMH.out j, HS.out c]
            constructor
            · rintro (h | h)
              · exact Or.inl h
              · exact Or.inr ⟨rfl, h⟩
            · rintro (h | ⟨_, h⟩)
              · exact Or.inl h
              · exact Or.inr h) (fun k hk => by
            rw [HS.out k]
            exact ⟨fun h => h.elim id (fun h => absurd h.1 hk), Or.inl⟩))
          have HBW := Go.Lib.hid (show Below w.heap.size w (wi.setCell ⟨w.heap.size, c, none⟩ (.bool (b1 || b2))) from below_set hbl.out (Nat.le_refl _))
          clear hlt hc hcb hb1 hb2 hba hbl
          cases b1 with
          | true =>
            rw [Bool.true_or] at HBP HBW
            go_wp2_with fail
            go_roundg (gk - 1)
            case measure => have := hj.out; have := HJ.out; omega
            case rel => exact ⟨j + 1, Go.Lib.hid (by have := hj.out; have := HJ.out; omega), by go_num, HBP, HBW⟩
          | false =>
            rw [Bool.false_or] at HBP HBW
            go_wp2_with fail
            go_roundg (gk - 1)
            case measure => have := hj.out; have := HJ.out; omega
            case rel => exact ⟨j + 1, Go.Lib.hid (by have := hj.out; have := HJ.out; omega), by go_num, HBP, HBW⟩
        · have hd : decide ((j : Int) < (x.f3.length : Int)) = false := decide_eq_false (by omega)
          have hd2 : decide (j < x.f3.length) = false := decide_eq_false hlt
          have HBE := Go.Lib.hid (hba.out.congr (q := Mk t n i) (fun k => by rw [← HMD.out k, show j = x.f3.length by have := hj.out; omega]))
          clear hlt hba hj
          go_wp2_with fail
          go_roundg (ga - 1)
          case measure => have := ha.out; omega
          case rel => exact ⟨i, Go.Lib.hid (by have := ha.out; omega), by first | rfl | go_num, Go.Lib.hid (by have := hal.out; omega), HBE, hbl⟩

set_option maxHeartbeats 8000000 in
set_option maxRecDepth 100000 in
theorem rcount_calls (t : List S28) (htr : treeB t = true) (hn : t.length ≤ 4096) (n : Nat) (hnt : n < t.length) (A0 : Option Addr) (c0 : Nat) (w : World) (hr : Kd.C k28 w A0 t.length t) :
    Calls Tryd.prog 17 #[.slice A0 t.length c0, .int .i64 (n : Int)] w fun e w' => e = .returned (.int .i64 ((cntB t n : Nat) : Int)) ∧ Below w.heap.size w w' := by
  have HC := Go.Lib.hid (rbelow_calls t htr hn n hnt A0 c0 w hr)
  have ht9 : (t.length : Int) ≤ 4096 := by omega
  have HN := Go.Lib.hid hn
  clear hr htr hn hnt
  go_enter Tryd.func17, Tryd.ntmps17
  go_wp2_with fail
  refine HC.out.mono ?_
  rintro e w1 ⟨g, rfl, hba, hbl⟩
  have HBA := Go.Lib.hid hba
  have HBL := Go.Lib.hid hbl
  clear hba hbl HC
  go_wp2_with fail
  go_loopg [5, 12] t.length (fun g_ v5 v12 w' => ∃ j : Nat, Hid (j + g_ = t.length) ∧ v12 = .int .i64 j ∧ v5 = .int .i64 ((cn j (Bl t n) : Nat) : Int) ∧ w' = w1)
  case atStart => exact ⟨0, Go.Lib.hid (by omega), rfl, rfl, rfl⟩
  case round =>
    obtain ⟨j, hj, rfl, rfl, rfl⟩ := hrel
    by_cases hlt : j < t.length
    · have hltj : (j : Int) < (t.length : Int) := by omega
      have hj0 : (0 : Int) ≤ (j : Int) := by omega
      have HJ := Go.Lib.hid hlt
      obtain ⟨b, hb⟩ := marks_at (Bl t n) j
      have z1 := HBA.out.cell j hlt hb
      have hcl := cn_le j (Bl t n)
      have HS := Go.Lib.hid (show b = true → cn (j + 1) (Bl t n) = cn j (Bl t n) + 1 from fun h => cn_succ_yes (hb.1 h))
      have HS' := Go.Lib.hid (show b = false → cn (j + 1) (Bl t n) = cn j (Bl t n) from fun h => cn_succ_no (fun h2 => by rw [hb.2 h2] at h; cases h))
      obtain ⟨s, hs⟩ : ∃ s : Nat, s = cn j (Bl t n) := ⟨_, rfl⟩
      rw [← hs] at hcl HS HS' ⊢
      have hs9 : (s : Int) ≤ 4096 := by have := HN.out; omega
      clear hlt hb hcl hs
      cases b with
      | true =>
        have HT := Go.Lib.hid (HS.out rfl)
        clear HS HS'
        go_wp2_with fail
        go_roundg (gk - 1)
        case measure => have := hj.out; have := HJ.out; omega
        case rel => exact ⟨j + 1, Go.Lib.hid (by have := hj.out; have := HJ.out; omega), by go_num, by rw [HT.out]; go_num, rfl⟩
      | false =>
        have HT := Go.Lib.hid (HS'.out rfl)
        clear HS HS'
        go_wp2_with fail
        go_roundg (gk - 1)
        case measure => have := hj.out; have := HJ.out; omega
        case rel => exact ⟨j + 1, Go.Lib.hid (by have := hj.out; have := HJ.out; omega), by go_num, by rw [HT.out], rfl⟩
    · have hd : decide ((j : Int) < (t.length : Int)) = false := decide_eq_false (by omega)
      have hd2 : decide (j < t.length) = false := decide_eq_false hlt
      have HE := Go.Lib.hid (show (Ending.returned (.int .i64 ((cn j (Bl t n) : Nat) : Int))) = .returned (.int .i64 ((cntB t n : Nat) : Int)) ∧ Below w.heap.size w _ from ⟨by unfold cntB; rw [show j = t.length by have := hj.out; omega], HBL.out⟩)
      clear hlt hj
      go_wp2_with fail
      go_ret
      exact HE.out
end Go.Proofs.YtjhinklijopobaaDoor.Co
