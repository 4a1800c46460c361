import Derived.Test.YtjhinklijopobaaDoorJb
import Derived.Test.YtjhinklijopobaaDoorGd
import Derived.Laws.EntriesVeiled
namespace Go.Proofs.YtjhinklijopobaaDoor.Co
open Go.RowKit Go.Proofs.YtjhinklijopobaaDoor.PCoreChecks Go.Proofs.YtjhinklijopobaaDoorW.PrintWords Go.Proofs.YtjhinklijopobaaDoorW.PrintLast Go.Proofs.YtjhinklijopobaaDoorW.PrintMore
set_option linter.unusedVariables false
set_option linter.unusedSimpArgs false

/-! ### core.List -/
set_option maxHeartbeats 4000000 in
set_option maxRecDepth 100000 in
theorem listC_calls (t : List S28) (ps : Nat → Nat) (N : Nat) (w : World) (hT : Ft w t N ps) (htr : treeB t = true) (hn : t.length ≤ 4096) (hf : ∀ x ∈ t, Fit x) (i : Nat) (hi : i < t.length) (hiN : i < N) :
    Calls Tryd.prog 55 #[ptrV (ps i)] w (LsP (lst t (i + 1) i 0) w) := by
  obtain ⟨w1, hw1⟩ : ∃ w1, w1 = w.alloc (.cells #[.slice none 0 0] 22) := ⟨_, rfl⟩
  obtain ⟨w2, hw2⟩ : ∃ w2, w2 = w1.alloc (.cells #[.func (.func 88) #[] #[ptrV (w.heap.size + 1), ptrV w.heap.size]] 65) := ⟨_, rfl⟩
  have s1 : w1.heap.size = w.heap.size + 1 := by rw [hw1]; simp
  have hO : Ow w w2 w.heap.size (fun k => k ≠ w.heap.size + 1) (.slice none 0 0) [] := by
    rw [hw2, hw1]
    exact ⟨below_alloc (below_alloc (Below.refl _ _) _) _, blk_alloc (blk_new _ _) _, Nat.le_refl _, Kd.R_nil _ _ _ _ _⟩
  have hC : Lc w w2 w.heap.size (w.heap.size + 1) (fun k => k ≠ w.heap.size + 1) := by
    refine ⟨Nat.le_refl _, ?_, ?_, ?_, by omega, fun h => h rfl, fun k hk => ?_⟩
    · rw [hw2]; simp [s1]; omega
    · rw [hw2]; simp [s1]; omega
    · rw [hw2, ← s1]; exact blk_new _ _
    · have : w2.heap.size = w.heap.size + 2 := by rw [hw2]; simp [s1]
      omega
  have HC := Go.Lib.hid (list1_calls w t ps N hT htr hn hf w.heap.size (w.heap.size + 1) (i + 1) i (by omega) hi hiN w2 _ _ _ hO hC (by have := cn_le t.length (Bl t i); unfold cntB; simp; omega))
  have HW1 := Go.Lib.hid hw1
  have HW2 := Go.Lib.hid hw2
  have HS1 := Go.Lib.hid s1
  clear hT htr hn hi hiN hO hC hw1 hw2 s1 hf
  go_enter Tryd.func55, Tryd.ntmps55
  go_wp2_with fail
  rw [← HW1.out, ← HW2.out]
  refine HC.out.mono ?_
  rintro e w3 ⟨v', rfl, hO, hF⟩
  rw [List.nil_append, List.length_nil] at hO
  obtain ⟨A, c, rfl, hl, hr⟩ := hO.reads
  have x0 := (blk_cell hO.bx 0).trans rfl
  have HV := Go.Lib.hid (show LsP (lst t (i + 1) i 0) w (.returned (.slice A (lst t (i + 1) i 0).length c)) w3 from ⟨A, c, rfl, hl, hr, hO.bl⟩)
  clear HC hO hF hl hr
  go_wp2_with fail
  go_ret
  exact HV.out

/-! ### core.Cut -/
/-- The list of a part, and the error. -/
noncomputable def cutL (t : List S28) (n : Int) : List S28 := if atE t n = 0 then lst t (n.toNat + 1) n.toNat 0 else []
def CutP (L : List S28) (er : Int) (w : World) (e : Ending) (w' : World) : Prop := ∃ A c, e = .returned (.tuple #[.slice A L.length c, .int .i64 er]) ∧ L.length ≤ c ∧ Kd.C k28 w' A L.length L ∧ Below w.heap.size w w'
set_option maxHeartbeats 4000000 in
set_option maxRecDepth 100000 in
theorem cut_calls (t : List S28) (n : Int) (A0 : Option Addr) (c0 : Nat) (w : World) (h : Ein w t A0 c0) (hT : Tab w) : Calls Tryd.prog 25 #[.slice A0 t.length c0, .int .i64 n] w (CutP (cutL t n) (atE t n) w) := by
  have HC := Go.Lib.hid (at_calls t n A0 c0 w h hT)
  have HE := Go.Lib.hid h
  clear h hT
  go_enter Tryd.func25, Tryd.ntmps25
  go_wp2_with fail
  refine HC.out.mono ?_
  rintro e w1 ⟨rfl, hb1⟩
  have HB := Go.Lib.hid hb1
  clear hb1 HC
  by_cases h0 : atE t n = 0
  · have b1 : (atE t n == 0) = true := beq_iff_eq.2 h0
    have b2 : (atE t n != 0) = false := by rw [bne, b1]; rfl
    obtain ⟨hz, h1, h2⟩ := atE_zero h0
    obtain ⟨hn, htr, hok⟩ := body_oks hz
    obtain ⟨k, rfl⟩ : ∃ k : Nat, n = (k : Int) := ⟨n.toNat, by omega⟩
    have HBC := Go.Lib.hid (below_calls t htr hn k (by omega) A0 c0 HE.out.hc w1 (Kd.C_below HE.out.hr HB.out))
    have HCC := Go.Lib.hid (fun w0 ps hT => listC_calls t ps (k + 1) w0 hT htr hn (fun x hx => (hok x hx).fit) k (by omega) (by omega))
    have HS := Go.Lib.hid (show cutL t (k : Int) = lst t (k + 1) k 0 by unfold cutL; rw [if_pos h0, Int.toNat_natCast])
    have HZ := Go.Lib.hid h0
    clear h0 h1 h2 hz hn htr hok
    go_wp2_with fail
    refine HBC.out.mono ?_
    rintro e w2 ⟨ps, rfl, hF, hb2⟩
    have HB2 := Go.Lib.hid (below_step HB.out hb2)
    have HC2 := Go.Lib.hid (HCC.out w2 ps hF)
    clear hF hb2 HBC HCC
    go_wp2_with fail
    refine HC2.out.mono ?_
    rintro e w3 ⟨A, c, rfl, hl, hr, hb3⟩
    rw [← HS.out] at hl hr ⊢
    have HV := Go.Lib.hid (show CutP (cutL t (k : Int)) (atE t (k : Int)) w (.returned (.tuple #[.slice A (cutL t (k : Int)).length c, .int .i64 0])) w3 from ⟨A, c, by rw [HZ.out], hl, hr, below_step HB2.out hb3⟩)
    clear HC2 hl hr hb3
    go_wp2_with fail
    go_ret2
    exact HV.out
  · have b1 : (atE t n == 0) = false := beq_eq_false_iff_ne.2 h0
    have b2 : (atE t n != 0) = true := by rw [bne, b1]; rfl
    have HV := Go.Lib.hid (show CutP (cutL t n) (atE t n) w (.returned (.tuple #[.slice none 0 0, .int .i64 (atE t n)])) w1 from by
      have e : cutL t n = [] := by unfold cutL; rw [if_neg h0]
      rw [e]; exact ⟨none, 0, rfl, Nat.le_refl _, Kd.C_nil _ _, HB.out⟩)
    clear h0
    go_wp2_with fail
    go_ret2
    exact HV.out
end Go.Proofs.YtjhinklijopobaaDoor.Co
