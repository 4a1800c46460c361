import Derived.Test.YtjhinklijopobaaDoorFd
import Derived.Test.YtjhinklijopobaaDoorFc
namespace Go.Proofs.YtjhinklijopobaaDoor.Co
open Go.RowKit Go.Proofs.YtjhinklijopobaaDoor.PCoreChecks Go.Proofs.YtjhinklijopobaaDoorW.PrintWords Go.Proofs.YtjhinklijopobaaDoorW.PrintLast Go.Proofs.YtjhinklijopobaaDoorW.PrintMore
set_option linter.unusedVariables false
set_option linter.unusedSimpArgs false

/-! ### core.Count -/
def CouP (r : Nat) (w : World) (e : Ending) (w' : World) : Prop := e = .returned (.int .i64 (r : Int)) ∧ w' = w
theorem CouP.mk {r : Nat} {w : World} {v : Int} (h : v = (r : Int)) : CouP r w (.returned (.int .i64 v)) w := ⟨by rw [h], rfl⟩
set_option maxHeartbeats 8000000 in
set_option maxRecDepth 100000 in
theorem count_calls (w0 : World) (t : List S28) (ps : Nat → Nat) (N : Nat) (hT : Ft w0 t N ps) (htr : treeB t = true) (hn : t.length ≤ 4096) :
    ∀ (m i : Nat), i < m → i < t.length → i < N → ∀ (W : World), Below w0.heap.size w0 W → Calls Tryd.prog 43 #[ptrV (ps i)] W (CouP (cntB t i) W) := by
  intro m
  induction m with
  | zero => intro i hi; omega
  | succ m ih =>
    intro i him hi hiN W hbl
    have HIH := Go.Lib.hid ih
    have HI := Go.Lib.hid hi
    have HIM := Go.Lib.hid him
    have HIN := Go.Lib.hid hiN
    have HN := Go.Lib.hid hn
    have HBL := Go.Lib.hid hbl
    obtain ⟨A2, c2, A3, c3, A4, c4, hN⟩ := hT i hi hiN
    have HNR := Go.Lib.hid hN
    have HKD := Go.Lib.hid (fun k (hk : k ∈ (t[i]'hi).f3) => badK_mem (rB_at (treeB_parts htr).2.1 i hi) hk)
    have HKL := Go.Lib.hid (kids_len htr hi)
    have HCE := Go.Lib.hid (cntB_eq htr hi)
    have HCK := Go.Lib.hid (fun (k : Nat) (hk : k < (t[i]'hi).f3.length) (c : Nat) (hc : (t[i]'hi).f3[k]'hk = (c : Int)) => cntK_succ htr hi hk hc)
    have HC0 := Go.Lib.hid (cntK_zero t i)
    have HCL := Go.Lib.hid (cntK_le t i)
    generalize t[i]'hi = x at hN HNR HKD HKL HCE HCK
    obtain ⟨-, -, -, t3, -⟩ := (hN.tb.below hbl).cells
    obtain ⟨R, hR⟩ : ∃ R, R = cntB t i := ⟨_, rfl⟩
    rw [← hR] at HCE ⊢
    clear ih him hi hiN hn hN hT hbl hR
    have hk9 : (x.f3.length : Int) ≤ 4096 := by have := HKL.out; have := HI.out; have := HN.out; omega
    have hkb9 : (((x.f3.map fun k => ps k.toNat).length : Nat) : Int) ≤ 4096 := by rw [List.length_map]; omega
    go_enter Tryd.func43, Tryd.ntmps43
    go_wp2_with fail
    clear t3
    go_loopg [3, 11] x.f3.length (fun g_ v3 v11 w' => ∃ k : Nat, Hid (k + g_ = x.f3.length) ∧ v11 = .int .i64 k ∧ v3 = .int .i64 ((1 + cntK t i k : Nat) : Int) ∧ w' = W)
    case atStart => exact ⟨0, Go.Lib.hid (by omega), rfl, by rw [HC0.out]; rfl, rfl⟩
    case round =>
      obtain ⟨k, hk, rfl, rfl, rfl⟩ := hrel
      by_cases hlt : k < x.f3.length
      · have hltk : (k : Int) < (((x.f3.map fun k => ps k.toNat).length : Nat) : Int) := by rw [List.length_map]; omega
        have hltk' : decide (k < (x.f3.map fun k => ps k.toNat).length) = true := decide_eq_true (by rw [List.length_map]; exact hlt)
        have hk0 : (0 : Int) ≤ (k : Int) := by omega
        have HK := Go.Lib.hid hlt
        have hG3 := HNR.out.g3
        obtain ⟨ad, cs, e_, _, hK, hcell⟩ := Kd.C_get hG3 (0 : Nat) (k : Int) hk0 hltk
        have hK' : cs = [ptrV ((x.f3.map fun k => ps k.toNat).getD (k : Int).toNat 0)] := hK
        subst hK'
        have q0 := hcell 0 _ rfl
        have hk1 : kp.sz = 1 := rfl
        rw [hk1, Int.toNat_natCast, Nat.mul_one, Nat.add_zero, List.getD_eq_getElem?_getD, List.getElem?_map, List.getElem?_eq_getElem hlt] at q0
        cases e_
        obtain ⟨c, hc⟩ : ∃ c : Nat, x.f3[k]'hlt = (c : Int) := ⟨(x.f3[k]'hlt).toNat, by have := HKD.out _ (List.getElem_mem hlt); omega⟩
        have hcb := HKD.out _ (List.getElem_mem hlt)
        rw [hc] at hcb
        simp only [hc, Option.map_some, Option.getD_some, Int.toNat_natCast] at q0
        have HCS := Go.Lib.hid (HCK.out k hlt c hc)
        have HCI := Go.Lib.hid (show c < i by omega)
        replace q0 := pw_cell_below HBL.out q0
        have HRC := Go.Lib.hid (HIH.out c (by have := HIM.out; omega) (by have := HI.out; omega) (by have := HIN.out; omega) _ HBL.out)
        have hs0 : cntK t i k ≤ 4096 := Nat.le_trans (HCL.out k) HN.out
        have hs1 : cntK t i (k + 1) ≤ 4096 := Nat.le_trans (HCL.out _) HN.out
        obtain ⟨s, hs⟩ : ∃ s : Nat, s = 1 + cntK t i k := ⟨_, rfl⟩
        rw [← hs]
        obtain ⟨z, hz⟩ : ∃ z : Nat, z = cntB t c := ⟨_, rfl⟩
        rw [← hz] at HCS HRC
        have hsz : (s : Int) + (z : Int) ≤ 5000 := by have := HCS.out; omega
        have HSZ := Go.Lib.hid (show (s : Int) + (z : Int) = ((1 + cntK t i (k + 1) : Nat) : Int) by have := HCS.out; omega)
        have hs9 : (0 : Int) ≤ (s : Int) := by omega
        have hz9 : (0 : Int) ≤ (z : Int) := by omega
        clear hlt hc hcb hG3 hK hcell hk1 hs0 hs1 hs hz HCS
        go_wp2_with fail
        refine HRC.out.mono ?_
        rintro e w' ⟨rfl, rfl⟩
        clear HRC q0
        go_wp2_with fail
        go_roundg (gk - 1)
        case measure => have := hk.out; have := HK.out; omega
        case rel => exact ⟨k + 1, Go.Lib.hid (by have := hk.out; have := HK.out; omega), by go_num, by first | (rw [← HSZ.out]; done) | (have := HSZ.out; go_num), rfl⟩
      · have hd : decide ((k : Int) < (((x.f3.map fun k => ps k.toNat).length : Nat) : Int)) = false := decide_eq_false (by rw [List.length_map]; omega)
        have hd2 : decide (k < (x.f3.map fun k => ps k.toNat).length) = false := decide_eq_false (by rw [List.length_map]; exact hlt)
        have hd3 : decide ((k : Int) < (x.f3.length : Int)) = false := decide_eq_false (by omega)
        have hd4 : decide (k < x.f3.length) = false := decide_eq_false hlt
        have HE := Go.Lib.hid (fun w => CouP.mk (r := R) (w := w) (v := ((1 + cntK t i k : Nat) : Int)) (by rw [HCE.out, show k = x.f3.length by have := hk.out; omega]))
        clear hlt hk
        go_wp2_with fail
        go_ret
        exact HE.out _
end Go.Proofs.YtjhinklijopobaaDoor.Co
