import Derived.Test.YtjhinklijopobaaDoorGCC7
import Derived.Test.YtjhinklijopobaaDoorGCC3
import Derived.ChangeArms
import Derived.Deep.Slices
import Derived.ProofKit
import Derived.OpenShut
import Derived.SizedLaws
namespace Go.Proofs.YtjhinklijopobaaDoor.Co
open Go.RowKit Go.Proofs.YtjhinklijopobaaDoor.PCoreChecks Go.Proofs.YtjhinklijopobaaDoorW.PrintWords Go.Proofs.YtjhinklijopobaaDoorW.PrintLast Go.Proofs.YtjhinklijopobaaDoorW.PrintMore
set_option linter.unusedVariables false
set_option linter.unusedSimpArgs false

/-! ### slices.Contains -/
theorem idx_l0 (l : List Int) (n : Int) (hl : l.length ≤ 17592186044416) : ∀ (m i : Nat), i + m = l.length → ∃ r : Int, Evs (fun k => slices_Index_int_int.l0 k l n (l.length : Int) (i : Int)) r ∧ (0 ≤ r ↔ n ∈ l.drop i) := by
  intro m
  induction m with
  | zero =>
    intro i hi
    refine ⟨-1, Evs.now fun k => ?_, ?_⟩
    · simp only [slices_Index_int_int.l0]
      rw [if_neg (by omega)]
    · rw [List.drop_of_length_le (by omega)]; simp
  | succ m ih =>
    intro i hi
    have hi' : i < l.length := by omega
    by_cases e : n = l[i]'hi'
    · refine ⟨i, Evs.now fun k => ?_, ?_⟩
      · simp only [slices_Index_int_int.l0]
        rw [if_pos (by omega), if_pos (by omega), if_pos (by omega), rd_nat l i hi', if_pos e]
      · constructor
        · intro _; rw [List.drop_eq_getElem_cons hi', ← e]; exact List.mem_cons_self
        · intro _; omega
    · obtain ⟨r, h1, h2⟩ := ih (i + 1) (by omega)
      refine ⟨r, Evs.step h1 fun k => ?_, ?_⟩
      · simp only [slices_Index_int_int.l0]
        rw [if_pos (by omega), if_pos (by omega), if_pos (by omega), rd_nat l i hi', if_neg e, up_nat i (by omega)]
      · rw [h2, List.drop_eq_getElem_cons hi', List.mem_cons]
        simp [e]
theorem has_calls (l : List Int) (hl : l.length ≤ 17592186044416) (A : Option Addr) (c : Nat) (n : Int) (w : World) (hC : Kd.C (Kd.int .i64) w A l.length l) (hc : l.length ≤ c) :
    Calls Tryd.prog 74 #[.slice A l.length c, .int .i64 n] w fun e w' => e = .returned (.bool (decide (n ∈ l))) ∧ Below w.heap.size w w' := by
  obtain ⟨r, ⟨K, hK⟩, h2⟩ := idx_l0 l n hl l.length 0 (by omega)
  refine (slices_Contains_int_int.calls K A c l n (decide (n ∈ l)) w hC hc ?_).mono fun e w' h => ⟨h.1, h.2.below⟩
  have h3 := hK K (Nat.le_refl _)
  unfold slices_Contains_int_int.f slices_Index_int_int.f
  simp only [Int.natCast_zero] at h3
  rw [h3]
  rw [List.drop_zero] at h2
  simp [h2]

/-! ### What a tree without errors is -/
theorem par_exists {t : List S28} (h : treeB t = true) : ∃ P, Par t P := by
  obtain ⟨h0, hr, hone⟩ := treeB_parts h
  have key : ∀ k, k < t.length - 1 → ∃ (i : Nat) (hi : i < t.length), k < i ∧ (k : Int) ∈ (t[i]'hi).f3 := by
    intro k hk
    have h1 := hone k hk
    have h2 : (k : Int) ∈ kidsT t := List.count_pos_iff.1 (by omega)
    unfold kidsT at h2
    obtain ⟨x, hx, hkx⟩ := List.mem_flatMap.1 h2
    obtain ⟨i, hi, rfl⟩ := List.mem_iff_getElem.1 hx
    have := badK_mem (rB_at hr i hi) hkx
    exact ⟨i, hi, by omega, hkx⟩
  let f : Nat → Int := fun k => if hk : k < t.length - 1 then ((Classical.choose (key k hk) : Nat) : Int) else -1
  refine ⟨(List.range t.length).map f, h, by simp, ?_, fun k hk => ?_⟩
  · rw [List.getElem?_map, List.getElem?_range (by omega)]
    show some (f (t.length - 1)) = some (-1)
    have : f (t.length - 1) = -1 := dif_neg (by omega)
    rw [this]
  · obtain ⟨hi, h1, h2⟩ := Classical.choose_spec (key k hk)
    refine ⟨Classical.choose (key k hk), hi, ?_, h1, h2⟩
    rw [List.getElem?_map, List.getElem?_range (by omega)]
    show some (f k) = _
    have : f k = ((Classical.choose (key k hk) : Nat) : Int) := dif_pos hk
    rw [this]
theorem idB_id {z : Int} (h : idB z = true) : idz z := by
  unfold idB inB at h
  simp only [Bool.and_eq_true, decide_eq_true_eq] at h
  unfold idz
  omega
theorem ok_of {t : List S28} {flat : Bool} (h : treeB t = true) (hn : t.length ≤ 4096) {x : S28} (hx : x ∈ t) (he : nodeErr flat t x = 0) : Ok x := by
  obtain ⟨hf, hnum, _⟩ := nodeErr_ok he
  have hfit := fit_of h hn hx hf hnum
  unfold numErr at hnum
  split at hnum
  · rename_i h1
    split at hnum
    · rename_i h2
      split at hnum
      · rename_i h3
        refine ⟨hfit, form_none hf, form_alts hf, fun z hz => idB_id (List.all_eq_true.1 h2 z hz), fun y hy z hz => ?_, fun h0 => ?_⟩
        · have h4 := List.all_eq_true.1 h3 y hy
          unfold altR at h4
          simp only [Bool.and_eq_true] at h4
          exact idB_id (List.all_eq_true.1 h4.2 z hz)
        · rw [h0] at h1
          unfold inB loB hiB at h1
          simp at h1
          unfold idz
          omega
      · omega
    · omega
  · omega
theorem ids_of {x : S28} (h : Ok x) : ∀ z ∈ bindsOf x, idz z := by
  intro z hz
  unfold bindsOf at hz
  rcases List.mem_append.1 hz with hz | hz
  · split at hz
    · exact h.ids z hz
    · simp at hz
  · obtain ⟨y, hy, hz⟩ := List.mem_flatMap.1 hz
    exact h.aids y hy z hz
theorem tErr_bad {t : List S28} {params : List Int} {flat : Bool} (h : tErr t ≠ 0) : bodyErr t params flat = tErr t := by
  unfold tErr at h ⊢
  unfold bodyErr
  by_cases h1 : 4096 < t.length
  · rw [if_pos h1, if_pos h1]
  · rw [if_neg h1] at h
    rw [if_neg h1, if_neg h1]
    by_cases h2 : treeB t = true
    · rw [if_pos h2] at h
      rw [if_pos h2, if_pos h2]
      by_cases h3 : 400 < heightT t
      · rw [if_pos h3, if_pos h3]
      · rw [if_neg h3] at h; exact absurd rfl h
    · rw [if_neg h2, if_neg h2]
theorem tErr_zero {t : List S28} (h : tErr t = 0) : ¬ 4096 < t.length ∧ treeB t = true ∧ ¬ 400 < heightT t := by
  unfold tErr at h
  split at h
  · omega
  · rename_i h1
    split at h
    · rename_i h2
      split at h
      · omega
      · rename_i h3; exact ⟨h1, h2, h3⟩
    · omega
end Go.Proofs.YtjhinklijopobaaDoor.Co
namespace Go.Proofs.YtjhinklijopobaaDoor.Co
open Go.RowKit Go.Proofs.YtjhinklijopobaaDoor.PCoreChecks Go.Proofs.YtjhinklijopobaaDoorW.PrintWords Go.Proofs.YtjhinklijopobaaDoorW.PrintLast Go.Proofs.YtjhinklijopobaaDoorW.PrintMore
set_option linter.unusedVariables false
set_option linter.unusedSimpArgs false
theorem coreOnly_f (op : Int) : core_coreOnly.f op = some (coreOp op) := by
  unfold core_coreOnly.f coreOp
  repeat' split
  all_goals rfl
theorem flatOnly_f (op : Int) : core_flatOnly.f op = some (flatOp op) := by
  unfold core_flatOnly.f flatOp
  repeat' split
  all_goals rfl
theorem coreOnly_calls (op : Int) (w : World) : Calls Tryd.prog 69 #[.int .i64 op] w fun e w' => e = .returned (.bool (coreOp op)) ∧ Drawn0 w w' := core_coreOnly.calls op _ w (coreOnly_f op)
theorem flatOnly_calls (op : Int) (w : World) : Calls Tryd.prog 70 #[.int .i64 op] w fun e w' => e = .returned (.bool (flatOp op)) ∧ Drawn0 w w' := core_flatOnly.calls op _ w (flatOnly_f op)
end Go.Proofs.YtjhinklijopobaaDoor.Co
namespace Go.Proofs.YtjhinklijopobaaDoor.Co
open Go.RowKit Go.Proofs.YtjhinklijopobaaDoor.PCoreChecks Go.Proofs.YtjhinklijopobaaDoorW.PrintWords Go.Proofs.YtjhinklijopobaaDoorW.PrintLast Go.Proofs.YtjhinklijopobaaDoorW.PrintMore
set_option linter.unusedVariables false
set_option linter.unusedSimpArgs false

/-! ### core.Body -/
/-- The box of the list. -/
structure Ks (w : World) (A0 : Option Addr) (n c0 : Nat) (W : World) : Prop where
  b : Below w.heap.size w W
  bx : W.heap[w.heap.size]? = some (.cells #[.slice A0 n c0] 22 (0, 0))
theorem Ks.below {w W W' : World} {A0 : Option Addr} {n c0 : Nat} (h : Ks w A0 n c0 W) (hb : Below W.heap.size W W') : Ks w A0 n c0 W' := ⟨below_step h.b hb, blk_below h.bx hb⟩
theorem Ks.made (w : World) (A0 : Option Addr) (n c0 : Nat) : Ks w A0 n c0 (w.alloc (.cells #[.slice A0 n c0] 22)) := ⟨below_alloc (Below.refl _ _) _, blk_new _ _⟩
theorem Ks.cell {w W : World} {A0 : Option Addr} {n c0 : Nat} (h : Ks w A0 n c0 W) : W.cell? ⟨w.heap.size, 0, none⟩ = some (.slice A0 n c0) := (blk_cell h.bx 0).trans rfl

set_option maxHeartbeats 16000000 in
set_option maxRecDepth 100000 in
theorem bodyC_calls (t : List S28) (params : List Int) (flat : Bool) (hs : ∀ x ∈ t, Small x) (hl : ∀ x ∈ t, x.f3.length * 8 ≤ 140737488351232) (hpl : params.length ≤ 1000) (hpw : ∀ z ∈ params, idz z) (A0 Ap : Option Addr) (c0 cp : Nat) (w : World) (hT : Tab w) (hr : Kd.C k28 w A0 t.length t) (hc : t.length ≤ c0) (hp : Kd.C (Kd.int .i64) w Ap params.length params) (hcp : params.length ≤ cp) :
    Calls Tryd.prog 40 #[.slice A0 t.length c0, .slice Ap params.length cp, .bool flat] w (BoP t params flat w) := by
  have HR := Go.Lib.hid hr
  have HC := Go.Lib.hid hc
  have HP := Go.Lib.hid hp
  have HCP := Go.Lib.hid hcp
  have HS := Go.Lib.hid hs
  have HPL := Go.Lib.hid hpl
  have HPW := Go.Lib.hid hpw
  have HT := Go.Lib.hid hT
  have hl9 : (t.length : Int) ≤ 9223372036854775807 := by have := hr.2.1; omega
  have HK0 := Go.Lib.hid (Ks.made w A0 t.length c0)
  have HTE := Go.Lib.hid (treeError_calls t A0 c0 _ (Kd.C_below hr HK0.out.b) hl)
  clear hr hc hp hcp hs hpl hpw hT hl
  go_enter Tryd.func40, Tryd.ntmps40
  go_wp2_with fail
  refine HTE.out.mono ?_
  rintro e w1 ⟨rfl, hb1⟩
  have HK1 := Go.Lib.hid (HK0.out.below hb1)
  have x0 := HK1.out.cell
  clear hb1 HK0 HTE
  by_cases he : tErr t = 0
  · have e1 : (tErr t == 0) = true := beq_iff_eq.2 he
    have e2 : (tErr t != 0) = false := by simp [he]
    obtain ⟨hn, htr, hdp⟩ := tErr_zero he
    have HN := Go.Lib.hid hn
    have HTR := Go.Lib.hid htr
    have HDP := Go.Lib.hid hdp
    have ht9 : (t.length : Int) ≤ 4096 := by omega
    clear he hn htr hdp
    go_wp2_with fail
    go_loopg [20] t.length (fun g_ v20 w' => ∃ i : Nat, Hid (i + g_ = t.length) ∧ v20 = .int .i64 i ∧ Hid (firstE (nodeErr flat t) t = firstE (nodeErr flat t) (t.drop i)) ∧ Hid (Ks w A0 t.length c0 w'))
    case atStart => exact ⟨0, Go.Lib.hid (by omega), rfl, Go.Lib.hid (by rw [List.drop_zero]), HK1⟩
    case round =>
      clear HK1 x0
      obtain ⟨i, hi, rfl, hf, hk⟩ := hrel
      obtain ⟨wo, hwo⟩ : ∃ wo : World, wo = wr := ⟨_, rfl⟩
      subst hwo
      by_cases hlt : i < t.length
      · have hlt' : (i : Int) < (t.length : Int) := by omega
        have hi0 : (0 : Int) ≤ (i : Int) := by omega
        have HI := Go.Lib.hid hlt
        obtain ⟨ad, A2, c2, A3, c3, A4, c4, e_, p0, p1, p2, p3, p4, l2, g2, l3, g3, l4, g4⟩ := at_T28 HR.out (i : Int) hi0 hlt'
        cases e_
        rw [rdT_nat t i hlt] at p0 p1 p2 p3 p4 l2 g2 l3 g3 l4 g4
        rw [Int.toNat_natCast] at p0 p1 p2 p3 p4
        replace p0 := pw_cell_below hk.out.b p0
        replace p1 := pw_cell_below hk.out.b p1
        replace p2 := pw_cell_below hk.out.b p2
        replace p3 := pw_cell_below hk.out.b p3
        replace p4 := pw_cell_below hk.out.b p4
        have HN1 := Go.Lib.hid (show Node w (t[i]'hlt) A2 c2 A3 c3 A4 c4 from ⟨l2, g2, l3, g3, l4, g4⟩)
        have HM := Go.Lib.hid (List.getElem_mem hlt)
        have HFD := Go.Lib.hid (hf.out.trans (firstE_drop (nodeErr flat t) t i hlt))
        generalize t[i]'hlt = x at p0 p1 p2 p3 p4 HN1 HM HFD
        have HX := Go.Lib.hid (Bx.made wo x A2 A3 A4 c2 c3 c4)
        have HKX := Go.Lib.hid (hk.out.below (below_alloc (Below.refl _ _) (.cells #[.int .i64 x.f0, .int .i64 x.f1, .slice A2 x.f2.length c2, .slice A3 x.f3.length c3, .slice A4 x.f4.length c4] 28)))
        have HNE := Go.Lib.hid (nodeErr_eq flat t x)
        clear hlt l2 g2 l3 g3 l4 g4 hf hk
        cases flat with
        | true =>
          go_wp2_with fail
          refine (coreOnly_calls x.f0 _).mono ?_
          rintro e w3 ⟨rfl, hd3⟩
          have HX3 := Go.Lib.hid (HX.out.below hd3.below)
          have HK3 := Go.Lib.hid (HKX.out.below hd3.below)
          obtain ⟨y0, y1, y2, y3, y4⟩ := HX3.out.cells
          have x0 := HK3.out.cell
          clear hd3 HX HKX p0 p1 p2 p3 p4
          have hbad : opBad true x.f0 = coreOp x.f0 := by unfold opBad; simp
          rw [hbad] at HNE
          clear hbad
          cases hop : coreOp x.f0 with
          | true =>
            rw [hop, if_pos rfl] at HNE
            have HE := Go.Lib.hid (show firstE (nodeErr true t) t = 3 by rw [HFD.out, if_neg (by rw [HNE.out]; decide), HNE.out])
            have HV := Go.Lib.hid (BoP.mk (w := w) (params := params) (body_node (by have := HN.out; omega) HTR.out (by have := HDP.out; omega) (by rw [HE.out]; decide)) HK3.out.b)
            rw [HE.out] at HV
            clear hop
            go_wp2_with fail
            go_ret
            exact HV.out
          | false =>
            rw [hop, if_neg (by decide)] at HNE
            have HCA := Go.Lib.hid (nodeError_calls t x (HS.out x HM.out) HTR.out HM.out (some ad) A2 A3 A4 c0 c2 c3 c4 w.heap.size w3 (HT.out.below HK3.out.b) (Kd.C_below HR.out HK3.out.b) HK3.out.cell (HN1.out.below HK3.out.b))
            clear hop
            go_wp2_with fail
            refine HCA.out.mono ?_
            rintro e w4 ⟨rfl, hb4⟩
            have HK4 := Go.Lib.hid (HK3.out.below hb4)
            have x0 := HK4.out.cell
            clear hb4 HK3 HX3 HCA y0 y1 y2 y3 y4
            by_cases hz : nodeErrP t x = 0
            · have z1 : (nodeErrP t x == 0) = true := beq_iff_eq.2 hz
              have z2 : (nodeErrP t x != 0) = false := by simp [hz]
              have HF2 := Go.Lib.hid (show firstE (nodeErr true t) t = firstE (nodeErr true t) (t.drop (i + 1)) by rw [HFD.out, if_pos (by rw [HNE.out]; exact hz)])
              clear hz
              go_wp2_with fail
              go_roundg (gk - 1)
              case measure => have := hi.out; have := HI.out; omega
              case rel => exact ⟨i + 1, Go.Lib.hid (by have := hi.out; have := HI.out; omega), by go_num, HF2, HK4⟩
            · have z1 : (nodeErrP t x == 0) = false := beq_eq_false_iff_ne.2 hz
              have z2 : (nodeErrP t x != 0) = true := by simp [hz]
              have HE := Go.Lib.hid (show firstE (nodeErr true t) t = nodeErrP t x by rw [HFD.out, if_neg (by rw [HNE.out]; exact hz), HNE.out])
              have HV := Go.Lib.hid (BoP.mk (w := w) (params := params) (body_node (by have := HN.out; omega) HTR.out (by have := HDP.out; omega) (by rw [HE.out]; exact hz)) HK4.out.b)
              rw [HE.out] at HV
              clear hz
              go_wp2_with fail
              go_ret
              exact HV.out
        | false =>
          go_wp2_with fail
          refine (flatOnly_calls x.f0 _).mono ?_
          rintro e w3 ⟨rfl, hd3⟩
          have HX3 := Go.Lib.hid (HX.out.below hd3.below)
          have HK3 := Go.Lib.hid (HKX.out.below hd3.below)
          obtain ⟨y0, y1, y2, y3, y4⟩ := HX3.out.cells
          have x0 := HK3.out.cell
          clear hd3 HX HKX p0 p1 p2 p3 p4
          have hbad : opBad false x.f0 = flatOp x.f0 := by unfold opBad; simp
          rw [hbad] at HNE
          clear hbad
          cases hop : flatOp x.f0 with
          | true =>
            rw [hop, if_pos rfl] at HNE
            have HE := Go.Lib.hid (show firstE (nodeErr false t) t = 3 by rw [HFD.out, if_neg (by rw [HNE.out]; decide), HNE.out])
            have HV := Go.Lib.hid (BoP.mk (w := w) (params := params) (body_node (by have := HN.out; omega) HTR.out (by have := HDP.out; omega) (by rw [HE.out]; decide)) HK3.out.b)
            rw [HE.out] at HV
            clear hop
            go_wp2_with fail
            go_ret
            exact HV.out
          | false =>
            rw [hop, if_neg (by decide)] at HNE
            have HCA := Go.Lib.hid (nodeError_calls t x (HS.out x HM.out) HTR.out HM.out (some ad) A2 A3 A4 c0 c2 c3 c4 w.heap.size w3 (HT.out.below HK3.out.b) (Kd.C_below HR.out HK3.out.b) HK3.out.cell (HN1.out.below HK3.out.b))
            clear hop
            go_wp2_with fail
            refine HCA.out.mono ?_
            rintro e w4 ⟨rfl, hb4⟩
            have HK4 := Go.Lib.hid (HK3.out.below hb4)
            have x0 := HK4.out.cell
            clear hb4 HK3 HX3 HCA y0 y1 y2 y3 y4
            by_cases hz : nodeErrP t x = 0
            · have z1 : (nodeErrP t x == 0) = true := beq_iff_eq.2 hz
              have z2 : (nodeErrP t x != 0) = false := by simp [hz]
              have HF2 := Go.Lib.hid (show firstE (nodeErr false t) t = firstE (nodeErr false t) (t.drop (i + 1)) by rw [HFD.out, if_pos (by rw [HNE.out]; exact hz)])
              clear hz
              go_wp2_with fail
              go_roundg (gk - 1)
              case measure => have := hi.out; have := HI.out; omega
              case rel => exact ⟨i + 1, Go.Lib.hid (by have := hi.out; have := HI.out; omega), by go_num, HF2, HK4⟩
            · have z1 : (nodeErrP t x == 0) = false := beq_eq_false_iff_ne.2 hz
              have z2 : (nodeErrP t x != 0) = true := by simp [hz]
              have HE := Go.Lib.hid (show firstE (nodeErr false t) t = nodeErrP t x by rw [HFD.out, if_neg (by rw [HNE.out]; exact hz), HNE.out])
              have HV := Go.Lib.hid (BoP.mk (w := w) (params := params) (body_node (by have := HN.out; omega) HTR.out (by have := HDP.out; omega) (by rw [HE.out]; exact hz)) HK4.out.b)
              rw [HE.out] at HV
              clear hz
              go_wp2_with fail
              go_ret
              exact HV.out
      · have hd : decide ((i : Int) < (t.length : Int)) = false := decide_eq_false (by omega)
        have hd2 : decide (i < t.length) = false := decide_eq_false hlt
        have HFE := Go.Lib.hid (show firstE (nodeErr flat t) t = 0 by rw [hf.out, List.drop_of_length_le (by omega)]; rfl)
        have HOK := Go.Lib.hid (fun x (hx : x ∈ t) => ok_of HTR.out (by omega) hx (firstE_all _ _ HFE.out x hx))
        have HTW := Go.Lib.hid (twice_calls t params (by omega) (fun x hx => (HOK.out x hx).fit) (fun x hx => ids_of (HOK.out x hx)) HPL.out HPW.out A0 Ap c0 cp wo (Kd.C_below HR.out hk.out.b) (Kd.C_below HP.out hk.out.b))
        have x0 := hk.out.cell
        clear hlt hf hi
        go_wp2_with fail
        refine HTW.out.mono ?_
        rintro e w5 ⟨rfl, hb5⟩
        have HK5 := Go.Lib.hid (hk.out.below hb5)
        clear x0
        have x0 := HK5.out.cell
        clear hb5 HTW
        cases hdu : dupB (allB params t) with
        | true =>
          have HV := Go.Lib.hid (BoP.mk (w := w) (body_twice (by have := HN.out; omega) HTR.out (by have := HDP.out; omega) HFE.out hdu) HK5.out.b)
          clear hdu
          go_wp2_with fail
          go_ret
          exact HV.out
        | false =>
          have HDU := Go.Lib.hid hdu
          have HGR := Go.Lib.hid (grow_calls t HTR.out (by omega) (fun x hx => (HOK.out x hx).fit) A0 c0 w5 (Kd.C_below HR.out HK5.out.b))
          clear hdu
          go_wp2_with fail
          refine HGR.out.mono ?_
          rintro e w6 ⟨ps, lo, rfl, hfo, hb6⟩
          have HK6 := Go.Lib.hid (HK5.out.below hb6)
          have HFO := Go.Lib.hid (freeOf_calls t ps w6 t.length hfo.reads HTR.out (by omega) HOK.out (t.length - 1) (by have := (treeB_parts HTR.out).1; omega) (by have := (treeB_parts HTR.out).1; omega))
          clear hfo hb6 x0 HGR
          go_wp2_with fail
          refine HFO.out.mono ?_
          rintro e w7 ⟨l, A7, c7, rfl, hsort, hmem, hown, hb7⟩
          have HK7 := Go.Lib.hid (HK6.out.below hb7)
          obtain ⟨B7, d7, eB, hle7, _⟩ := own_reads_of_le (d := (0 : Int)) hown
          cases eB
          have HG7 := Go.Lib.hid (Kd.C_of_reads (d := (0 : Int)) (h1 := fun _ => rfl) (own_reads_of' hown))
          have HMEM := Go.Lib.hid hmem
          have hq9 : (l.length : Int) ≤ 9223372036854775807 := by have := HG7.out.2.1; omega
          clear hsort hmem hown hb7 HFO HK6 hle7
          go_wp2_with fail
          go_loopg [53] l.length (fun g_ v53 w' => ∃ j : Nat, Hid (j + g_ = l.length) ∧ v53 = .int .i64 j ∧ Hid (∀ k, k < j → rd l (k : Nat) ∈ params) ∧ Hid (Ks w A0 t.length c0 w') ∧ Hid (Kd.C (Kd.int .i64) w' A7 l.length l))
          case atStart => exact ⟨0, Go.Lib.hid (by omega), rfl, Go.Lib.hid (by omega), HK7, HG7⟩
          case round =>
            clear HK7 HG7 hk
            obtain ⟨j, hj, rfl, hin, hk, hg⟩ := hrel
            obtain ⟨wi, hwi⟩ : ∃ wi : World, wi = wr := ⟨_, rfl⟩
            subst hwi
            by_cases hlt : j < l.length
            · have hltj : (j : Int) < (l.length : Int) := by omega
              have hj0 : (0 : Int) ≤ (j : Int) := by omega
              have HJ := Go.Lib.hid hlt
              obtain ⟨ad5, e_, q0⟩ := Kd.at_int hg.out (j : Int) hj0 hltj
              cases e_
              rw [Int.toNat_natCast] at q0
              have HML := Go.Lib.hid (show rd l (j : Nat) ∈ l by rw [rd_nat l j hlt]; exact List.getElem_mem hlt)
              have HNX := Go.Lib.hid (show rd l (j : Nat) ∈ params → ∀ k, k < j + 1 → rd l (k : Nat) ∈ params from fun h k hk => by
                by_cases e : k = j
                · subst e; exact h
                · exact hin.out k (by omega))
              have HCT := Go.Lib.hid (fun z => has_calls params (by have := HPL.out; omega) Ap cp z wi (Kd.C_below HP.out hk.out.b) HCP.out)
              generalize rd l (j : Nat) = z at q0 HML HNX
              clear hlt hin
              go_wp2_with fail
              refine (HCT.out z).mono ?_
              rintro e w8 ⟨rfl, hb8⟩
              have HK8 := Go.Lib.hid (hk.out.below hb8)
              have HG8 := Go.Lib.hid (Kd.C_below hg.out hb8)
              clear hb8 hk hg q0 HCT
              by_cases hm : z ∈ params
              · have hd9 : decide (z ∈ params) = true := decide_eq_true hm
                have HN9 := Go.Lib.hid (HNX.out hm)
                clear hm
                rw [hd9]
                go_wp2_with fail
                go_roundg (gk - 1)
                case measure => have := hj.out; have := HJ.out; omega
                case rel => exact ⟨j + 1, Go.Lib.hid (by have := hj.out; have := HJ.out; omega), by go_num, HN9, HK8, HG8⟩
              · have hd9 : decide (z ∈ params) = false := decide_eq_false hm
                have HBN := Go.Lib.hid (show badName t params by
                  obtain ⟨P, hP⟩ := par_exists HTR.out
                  exact (badName_iff hP params).2 ⟨z, (HMEM.out z).1 HML.out, hm⟩)
                have HV := Go.Lib.hid (BoP.mk (w := w) (body_name (by have := HN.out; omega) HTR.out (by have := HDP.out; omega) HFE.out HDU.out HBN.out) HK8.out.b)
                clear hm
                rw [hd9]
                go_wp2_with fail
                go_ret
                exact HV.out
            · have hd : decide ((j : Int) < (l.length : Int)) = false := decide_eq_false (by omega)
              have hd2 : decide (j < l.length) = false := decide_eq_false hlt
              have HBN := Go.Lib.hid (show ¬ badName t params by
                obtain ⟨P, hP⟩ := par_exists HTR.out
                rw [badName_iff hP params]
                rintro ⟨z, hz, hzn⟩
                have h1 := (HMEM.out z).2 hz
                obtain ⟨k, hk, rfl⟩ := List.mem_iff_getElem.1 h1
                have h2 := hin.out k (by omega)
                rw [rd_nat l k hk] at h2
                exact hzn h2)
              have HV := Go.Lib.hid (BoP.mk (w := w) (body_ok (by have := HN.out; omega) HTR.out (by have := HDP.out; omega) HFE.out HDU.out HBN.out) hk.out.b)
              clear hlt hin hj
              go_wp2_with fail
              go_ret
              exact HV.out
  · have e1 : (tErr t == 0) = false := beq_eq_false_iff_ne.2 he
    have e2 : (tErr t != 0) = true := by simp [he]
    have HV := Go.Lib.hid (BoP.mk (w := w) (params := params) (flat := flat) (tErr_bad he) HK1.out.b)
    clear he
    go_wp2_with fail
    go_ret
    exact HV.out
end Go.Proofs.YtjhinklijopobaaDoor.Co
namespace Go.Proofs.YtjhinklijopobaaDoor.Co
open Go.RowKit Go.Proofs.YtjhinklijopobaaDoor.PCoreChecks Go.Proofs.YtjhinklijopobaaDoorW.PrintWords Go.Proofs.YtjhinklijopobaaDoorW.PrintLast Go.Proofs.YtjhinklijopobaaDoorW.PrintMore
set_option linter.unusedVariables false
set_option linter.unusedSimpArgs false

/-! ### core.Check and the document's Fault -/
/-- A list of nodes that is an argument. -/
structure Ein (w : World) (t : List S28) (A0 : Option Addr) (c0 : Nat) : Prop where
  small : ∀ x ∈ t, Small x
  kids : ∀ x ∈ t, x.f3.length * 8 ≤ 140737488351232
  hc : t.length ≤ c0
  hr : Kd.C k28 w A0 t.length t
theorem Ein.below {w w' : World} {t : List S28} {A0 : Option Addr} {c0 : Nat} (h : Ein w t A0 c0) (hb : Below w.heap.size w w') : Ein w' t A0 c0 := ⟨h.small, h.kids, h.hc, Kd.C_below h.hr hb⟩
set_option maxRecDepth 100000 in
theorem check_calls (t : List S28) (A0 : Option Addr) (c0 : Nat) (w : World) (h : Ein w t A0 c0) (hT : Tab w) : Calls Tryd.prog 12 #[.slice A0 t.length c0] w (BoP t [] false w) := by
  have HC := Go.Lib.hid (bodyC_calls t [] false h.small h.kids (by simp) (by simp) A0 none c0 0 w hT h.hr h.hc (Kd.C_nil _ _) (Nat.le_refl _))
  clear h hT
  go_enter Tryd.func12, Tryd.ntmps12
  go_wp2_with fail
  refine HC.out.mono ?_
  rintro e w' ⟨rfl, hb⟩
  have HV := Go.Lib.hid (BoP.mk (t := t) (params := []) (flat := false) rfl hb)
  clear hb HC
  go_wp2_with fail
  go_ret
  exact HV.out
set_option maxRecDepth 100000 in
theorem fault_calls (t : List S28) (A0 : Option Addr) (c0 : Nat) (w : World) (h : Ein w t A0 c0) : Calls Tryd.prog 13 #[.slice A0 t.length c0] w (BoP t [] false w) := by
  have HC := Go.Lib.hid (bodyR_calls t [] false h.small (by simp) A0 none c0 0 w h.hr h.hc (Kd.C_nil _ _) (Nat.le_refl _))
  clear h
  go_enter Tryd.func13, Tryd.ntmps13
  go_wp2_with fail
  refine HC.out.mono ?_
  rintro e w' ⟨rfl, hb⟩
  have HV := Go.Lib.hid (BoP.mk (t := t) (params := []) (flat := false) rfl hb)
  clear hb HC
  go_wp2_with fail
  go_ret
  exact HV.out
/-- The list of one free variable. -/
theorem one_var : bodyErr [⟨0, 0, [], [], []⟩] [] false = 6 := by
  have ht : treeB [⟨0, 0, [], [], []⟩] = true := by decide
  refine body_name (by decide) ht (by decide) (by decide) (by decide) ?_
  obtain ⟨P, hP⟩ := par_exists ht
  exact (badName_iff hP []).2 ⟨0, Fv.var (t := [⟨0, 0, [], [], []⟩]) 0 (by decide) rfl, by simp⟩
theorem ein_one (w : World) : Ein (w.alloc (.cells #[.int .i64 0, .int .i64 0, .slice none 0 0, .slice none 0 0, .slice none 0 0] 28)) [⟨0, 0, [], [], []⟩] (some ⟨w.heap.size, 0, none⟩) 1 := by
  refine ⟨?_, ?_, Nat.le_refl _, ?_⟩
  · intro x hx
    rw [List.mem_singleton.1 hx]
    exact ⟨by simp, by simp, by simp, by simp⟩
  · intro x hx
    rw [List.mem_singleton.1 hx]
    simp
  · refine ⟨rfl, by simp, fun _ => ⟨_, rfl, fun j p hj => ?_⟩⟩
    have hj0 : j = 0 := by
      have := (List.getElem?_eq_some_iff.1 hj).1
      simp at this; omega
    subst hj0
    have hp : p = ⟨0, 0, [], [], []⟩ := by simpa using hj.symm
    subst hp
    refine ⟨[.int .i64 0, .int .i64 0, .slice none 0 0, .slice none 0 0, .slice none 0 0], rfl, ?_, fun i u hu => ?_⟩
    · exact k28_mk _ ⟨0, 0, [], [], []⟩ (Nat.le_refl _) (Kd.C_nil _ _) (Nat.le_refl _) (Kd.C_nil _ _) (Nat.le_refl _) (Kd.C_nil _ _)
    · rw [Nat.zero_mul, Nat.zero_add, add_plain, blk_cell (blk_new _ _)]
      simpa using hu

def LwP (w : World) (e : Ending) (w' : World) : Prop := e = .returned (.bool true) ∧ Below w.heap.size w w'
set_option maxHeartbeats 4000000 in
set_option maxRecDepth 100000 in
theorem law_coreChecks (t : List S28) (A0 : Option Addr) (c0 : Nat) (w : World) (h : Ein w t A0 c0) (hT : Tab w) : Calls Tryd.prog 3 #[.slice A0 t.length c0] w (LwP w) := by
  have HB0 := Go.Lib.hid (below_alloc (Below.refl w.heap.size w) (.cells #[.int .i64 0, .int .i64 0, .slice none 0 0, .slice none 0 0, .slice none 0 0] 28))
  have HC1 := Go.Lib.hid (check_calls _ _ _ _ (ein_one w) (hT.below HB0.out))
  have HE := Go.Lib.hid h
  have HT := Go.Lib.hid hT
  clear h hT
  go_enter Tryd.func3, Tryd.ntmps3
  go_wp2_with fail
  refine HC1.out.mono ?_
  rintro e w1 ⟨rfl, hb1⟩
  have HB1 := Go.Lib.hid (below_step HB0.out hb1)
  rw [one_var]
  clear hb1 HC1 HB0
  have HC2 := Go.Lib.hid (check_calls t A0 c0 w1 (HE.out.below HB1.out) (HT.out.below HB1.out))
  go_wp2_with fail
  refine HC2.out.mono ?_
  rintro e w2 ⟨rfl, hb2⟩
  have HB2 := Go.Lib.hid (below_step HB1.out hb2)
  clear hb2 HC2 HB1
  have HC3 := Go.Lib.hid (fault_calls t A0 c0 w2 (HE.out.below HB2.out))
  go_wp2_with fail
  refine HC3.out.mono ?_
  rintro e w3 ⟨rfl, hb3⟩
  have HV := Go.Lib.hid (show LwP w (.returned (.bool true)) w3 from ⟨rfl, below_step HB2.out hb3⟩)
  clear hb3 HC3 HB2
  have hq : (bodyErr t [] false == bodyErr t [] false) = true := beq_self_eq_true _
  go_wp2_with fail
  go_ret
  exact HV.out
end Go.Proofs.YtjhinklijopobaaDoor.Co
namespace Go.Proofs.YtjhinklijopobaaDoor.Co
open Go.RowKit Go.Proofs.YtjhinklijopobaaDoor.PCoreChecks Go.Proofs.YtjhinklijopobaaDoorW.PrintWords Go.Proofs.YtjhinklijopobaaDoorW.PrintLast Go.Proofs.YtjhinklijopobaaDoorW.PrintMore
set_option linter.unusedVariables false
set_option linter.unusedSimpArgs false

/-! ### Arguments that are lists of nodes -/
theorem ce28 : Tryd.prog.cellsOf 28 = 5 := by kernel_rfl
theorem ce86 : Tryd.prog.cellsOf 86 = 2 := by kernel_rfl
theorem ce25 : Tryd.prog.cellsOf 25 = 1 := by kernel_rfl
theorem ce26 : Tryd.prog.cellsOf 26 = 1 := by kernel_rfl
theorem ce3 : Tryd.prog.cellsOf 3 = 1 := by kernel_rfl
theorem by3 : Tryd.prog.bytesOf 3 = 8 := by kernel_rfl
theorem by86 : Tryd.prog.bytesOf 86 = 32 := by kernel_rfl
theorem by28 : Tryd.prog.bytesOf 28 = 88 := by kernel_rfl

theorem add_two (a : Addr) (m n : Nat) : (a.add m).add n = a.add (m + n) := by
  unfold Addr.add
  by_cases hm : m = 0
  · subst hm; simp
  · by_cases hn : n = 0
    · subst hn; simp
    · rw [if_neg hm, if_neg hn, if_neg (by omega), Nat.add_assoc]
theorem mem_weightsAll {H : Type} {P : Program} {e : TypeId} {ds : List (DataW H)} {d : DataW H} (h : d ∈ ds) {v : Nat} (hv : v ∈ d.weights P e) : v ∈ DataW.weightsAll P e ds := by
  induction ds with
  | nil => cases h
  | cons a ds ih =>
    rw [DataW.weightsAll, List.mem_append]
    rcases List.mem_cons.1 h with rfl | h
    · exact Or.inl hv
    · exact Or.inr (ih h)

/-- A slice argument whose elements open, with what each weighs. -/
theorem open_sliceW {P : Program} {H : Type} {enc : TypeId × Value → H} {W : World} {α : Type} (k : Kd α) (z : α) (Q : α → Prop) (M : Nat) {t e : TypeId} (ht : P.underlying t = some (.slice e)) (hce : P.cellsOf e = k.sz)
    (hel : ∀ (n : Nat) (cs : List Value) (x : DataW H × List MemPlace), DataW.trod enc P W 0 (fun _ => true) true n e cs = some x → (∀ v ∈ x.1.weights P e, v ≤ M) → ∃ y : α, k.K W y cs ∧ Q y)
    {m : Nat} {d : Value} {x : DataW H × List MemPlace} (h : DataW.trod enc P W 0 (fun _ => true) true m t [d] = some x) (hw : ∀ v ∈ x.1.weights P t, v ≤ M) :
    ∃ (l : List α) (A : Option Addr) (c : Nat), d = .slice A l.length c ∧ l.length ≤ c ∧ k.C W A l.length l ∧ (∀ y ∈ l, Q y) ∧ l.length * P.bytesOf e ≤ M := by
  rcases DataW.trod_slice ht h with ⟨q3, _⟩ | ⟨ad, len, cap, elems, rest, n, hk, q3, q4, _, hlc, hcm, hel', hi, _, _⟩
  · obtain rfl : d = .slice none 0 0 := by simpa using q3
    exact ⟨[], none, 0, rfl, Nat.le_refl _, Kd.C_nil k W, fun y hy => by simp at hy, by simp⟩
  · obtain rfl : d = .slice (some ad) len cap := by simpa using q3
    rw [hce] at hi
    have hwx : x.1.weights P t = ((elems.map (·.1)).length + (rest.map (·.1)).length) * P.bytesOf e :: (DataW.weightsAll P e (elems.map (·.1)) ++ DataW.weightsAll P e (rest.map (·.1))) := by
      rw [q4]; simp only [DataW.weights, ht]
    have hlen0 : len * P.bytesOf e ≤ M := by
      have h1 := hw _ (by rw [hwx]; exact List.mem_cons_self)
      rw [List.length_map, hel'] at h1
      exact Nat.le_trans (Nat.mul_le_mul_right _ (Nat.le_add_right _ _)) h1
    have hy : ∀ i, ∃ y : α, i < len → Q y ∧ ∃ c, k.K W y c ∧ ∀ j u, c[j]? = some u → W.cell? (ad.add (i * k.sz + j)) = some u := by
      intro i
      by_cases hlt : i < len
      · have h1 := hi i hlt
        rw [List.getElem?_eq_getElem (by omega)] at h1
        obtain ⟨c, hc, ht'⟩ := Option.bind_eq_some_iff.1 h1
        obtain ⟨y, hK, hQ⟩ := hel _ c _ ht' (fun v hv => hw v (by
          rw [hwx]
          refine List.mem_cons_of_mem _ (List.mem_append_left _ (mem_weightsAll (List.mem_map.2 ⟨_, List.getElem_mem _, rfl⟩) hv))))
        refine ⟨y, fun _ => ⟨hQ, c, hK, fun j u hj => ?_⟩⟩
        obtain ⟨_, hcl, hcc⟩ := World.cells?_some hc
        have hjl := (List.getElem?_eq_some_iff.1 hj).1
        have h2 := hcc j (by omega)
        rw [hj] at h2
        rw [← h2, add_two]
      · exact ⟨z, fun h => absurd h hlt⟩
    obtain ⟨f, hf'⟩ := Classical.axiomOfChoice hy
    have hlen : ((List.range len).map f).length = len := by simp
    refine ⟨(List.range len).map f, some ad, cap, by rw [hlen], by rw [hlen]; exact hlc, ?_, ?_, by rw [hlen]; exact hlen0⟩
    · rw [hlen]
      refine ⟨by simp, by unfold maxLen at hcm; omega, fun _ => ⟨ad, rfl, fun j p hj => ?_⟩⟩
      have hjl : j < len := by
        have := (List.getElem?_eq_some_iff.1 hj).1
        simpa using this
      have hp : p = f j := by simpa [hjl] using hj.symm
      subst hp
      obtain ⟨-, c, hK, hcc⟩ := hf' j hjl
      exact ⟨c, k.K_len hK, hK, hcc⟩
    · intro y hy
      obtain ⟨j, hj, rfl⟩ := List.mem_map.1 hy
      exact (hf' j (List.mem_range.1 hj)).1

theorem open3 {H : Type} {enc : TypeId × Value → H} {W : World} (n : Nat) (cs : List Value) (x : DataW H × List MemPlace) (h : DataW.trod enc Tryd.prog W 0 (fun _ => true) true n 3 cs = some x) : ∃ y : Int, (Kd.int .i64).K W y cs := by
  obtain ⟨n1, q1, _, _⟩ := DataW.trod_int Tryd.underlying3 h
  exact ⟨n1, q1⟩
def QA (y : S86) : Prop := y.f1.length * 8 ≤ 140737488351232
set_option maxRecDepth 100000 in
theorem open86 {H : Type} {enc : TypeId × Value → H} {W : World} (n : Nat) (cs : List Value) (x : DataW H × List MemPlace) (h : DataW.trod enc Tryd.prog W 0 (fun _ => true) true n 86 cs = some x) (hw : ∀ v ∈ x.1.weights Tryd.prog 86, v ≤ 140737488351232) : ∃ y : S86, k86.K W y cs ∧ QA y := by
  obtain ⟨xs, m, rfl, rfl, hl, hxl, hf⟩ := DataW.trod_struct Tryd.underlying86 h
  rw [ce86] at hl
  obtain ⟨a0, a1, rfl⟩ : ∃ a0 a1, cs = [a0, a1] := by
    match cs, hl with
    | [a0, a1], _ => exact ⟨a0, a1, rfl⟩
  obtain ⟨z0, z1, rfl⟩ : ∃ z0 z1, xs = [z0, z1] := by
    have hxl' : xs.length = 2 := hxl
    match xs, hxl' with
    | [z0, z1], _ => exact ⟨z0, z1, rfl⟩
  have e0 := hf 0 _ rfl
  have e1 := hf 1 _ rfl
  replace e0 : DataW.trod enc Tryd.prog W 0 (fun _ => true) true m 3 [a0] = some z0 := by
    have h : DataW.trod enc Tryd.prog W 0 (fun _ => true) true m 3 (List.take (Tryd.prog.cellsOf 3) [a0, a1]) = some z0 := e0
    rw [ce3] at h; exact h
  replace e1 : DataW.trod enc Tryd.prog W 0 (fun _ => true) true m 25 [a1] = some z1 := by
    have h : DataW.trod enc Tryd.prog W 0 (fun _ => true) true m 25 (List.take (Tryd.prog.cellsOf 25) [a1]) = some z1 := e1
    rw [ce25] at h; exact h
  have hw1 : ∀ v ∈ z1.1.weights Tryd.prog 25, v ≤ 140737488351232 := by
    intro v hv
    refine hw v ?_
    have h : (DataW.agg ([z0, z1].map (·.1))).weights Tryd.prog 86 = z0.1.weights Tryd.prog 3 ++ (z1.1.weights Tryd.prog 25 ++ []) := by
      simp only [DataW.weights, Tryd.underlying86]
      rfl
    rw [h]
    exact List.mem_append_right _ (List.mem_append_left _ hv)
  obtain ⟨n0, q0, _, _⟩ := DataW.trod_int Tryd.underlying3 e0
  obtain ⟨l1, A1, c1, q1, hlc, hC, -, hM⟩ := open_sliceW (Kd.int .i64) 0 (fun _ => True) 140737488351232 Tryd.underlying25 ce3 (fun n cs x h _ => by obtain ⟨y, hy⟩ := open3 n cs x h; exact ⟨y, hy, trivial⟩) e1 hw1
  obtain rfl : a0 = .int .i64 n0 := by simpa using q0
  subst q1
  rw [by3] at hM
  exact ⟨⟨n0, l1⟩, k86_mk W ⟨n0, l1⟩ hlc hC, hM⟩
structure QE (y : S28) : Prop where
  small : Small y
  kids : y.f3.length * 8 ≤ 140737488351232
set_option maxRecDepth 100000 in
theorem open28 {H : Type} {enc : TypeId × Value → H} {W : World} (n : Nat) (cs : List Value) (x : DataW H × List MemPlace) (h : DataW.trod enc Tryd.prog W 0 (fun _ => true) true n 28 cs = some x) (hw : ∀ v ∈ x.1.weights Tryd.prog 28, v ≤ 140737488351232) : ∃ y : S28, k28.K W y cs ∧ QE y := by
  obtain ⟨xs, m, rfl, rfl, hl, hxl, hf⟩ := DataW.trod_struct Tryd.underlying28 h
  rw [ce28] at hl
  obtain ⟨a0, a1, a2, a3, a4, rfl⟩ : ∃ a0 a1 a2 a3 a4, cs = [a0, a1, a2, a3, a4] := by
    match cs, hl with
    | [a0, a1, a2, a3, a4], _ => exact ⟨a0, a1, a2, a3, a4, rfl⟩
  obtain ⟨z0, z1, z2, z3, z4, rfl⟩ : ∃ z0 z1 z2 z3 z4, xs = [z0, z1, z2, z3, z4] := by
    have hxl' : xs.length = 5 := hxl
    match xs, hxl' with
    | [z0, z1, z2, z3, z4], _ => exact ⟨z0, z1, z2, z3, z4, rfl⟩
  have e0 := hf 0 _ rfl
  have e1 := hf 1 _ rfl
  have e2 := hf 2 _ rfl
  have e3 := hf 3 _ rfl
  have e4 := hf 4 _ rfl
  replace e0 : DataW.trod enc Tryd.prog W 0 (fun _ => true) true m 3 [a0] = some z0 := by
    have h : DataW.trod enc Tryd.prog W 0 (fun _ => true) true m 3 (List.take (Tryd.prog.cellsOf 3) [a0, a1, a2, a3, a4]) = some z0 := e0
    rw [ce3] at h; exact h
  replace e1 : DataW.trod enc Tryd.prog W 0 (fun _ => true) true m 3 [a1] = some z1 := by
    have h : DataW.trod enc Tryd.prog W 0 (fun _ => true) true m 3 (List.take (Tryd.prog.cellsOf 3) [a1, a2, a3, a4]) = some z1 := e1
    rw [ce3] at h; exact h
  replace e2 : DataW.trod enc Tryd.prog W 0 (fun _ => true) true m 25 [a2] = some z2 := by
    have h : DataW.trod enc Tryd.prog W 0 (fun _ => true) true m 25 (List.take (Tryd.prog.cellsOf 25) [a2, a3, a4]) = some z2 := e2
    rw [ce25] at h; exact h
  replace e3 : DataW.trod enc Tryd.prog W 0 (fun _ => true) true m 25 [a3] = some z3 := by
    have h : DataW.trod enc Tryd.prog W 0 (fun _ => true) true m 25 (List.take (Tryd.prog.cellsOf 25) [a3, a4]) = some z3 := e3
    rw [ce25] at h; exact h
  replace e4 : DataW.trod enc Tryd.prog W 0 (fun _ => true) true m 26 [a4] = some z4 := by
    have h : DataW.trod enc Tryd.prog W 0 (fun _ => true) true m 26 (List.take (Tryd.prog.cellsOf 26) [a4]) = some z4 := e4
    rw [ce26] at h; exact h
  have hwt : (DataW.agg ([z0, z1, z2, z3, z4].map (·.1))).weights Tryd.prog 28 = z0.1.weights Tryd.prog 3 ++ (z1.1.weights Tryd.prog 3 ++ (z2.1.weights Tryd.prog 25 ++ (z3.1.weights Tryd.prog 25 ++ (z4.1.weights Tryd.prog 26 ++ [])))) := by
    simp only [DataW.weights, Tryd.underlying28]
    rfl
  have hw2 : ∀ v ∈ z2.1.weights Tryd.prog 25, v ≤ 140737488351232 := fun v hv => hw v (by rw [hwt]; exact List.mem_append_right _ (List.mem_append_right _ (List.mem_append_left _ hv)))
  have hw3 : ∀ v ∈ z3.1.weights Tryd.prog 25, v ≤ 140737488351232 := fun v hv => hw v (by rw [hwt]; exact List.mem_append_right _ (List.mem_append_right _ (List.mem_append_right _ (List.mem_append_left _ hv))))
  have hw4 : ∀ v ∈ z4.1.weights Tryd.prog 26, v ≤ 140737488351232 := fun v hv => hw v (by rw [hwt]; exact List.mem_append_right _ (List.mem_append_right _ (List.mem_append_right _ (List.mem_append_right _ (List.mem_append_left _ hv)))))
  obtain ⟨n0, q0, _, _⟩ := DataW.trod_int Tryd.underlying3 e0
  obtain ⟨n1, q1, _, _⟩ := DataW.trod_int Tryd.underlying3 e1
  obtain ⟨l2, A2, c2, q2, hl2, hC2, -, hM2⟩ := open_sliceW (Kd.int .i64) 0 (fun _ => True) 140737488351232 Tryd.underlying25 ce3 (fun n cs x h _ => by obtain ⟨y, hy⟩ := open3 n cs x h; exact ⟨y, hy, trivial⟩) e2 hw2
  obtain ⟨l3, A3, c3, q3, hl3, hC3, -, hM3⟩ := open_sliceW (Kd.int .i64) 0 (fun _ => True) 140737488351232 Tryd.underlying25 ce3 (fun n cs x h _ => by obtain ⟨y, hy⟩ := open3 n cs x h; exact ⟨y, hy, trivial⟩) e3 hw3
  obtain ⟨l4, A4, c4, q4, hl4, hC4, hQ4, hM4⟩ := open_sliceW k86 z86 QA 140737488351232 Tryd.underlying26 ce86 (fun n cs x h hw => open86 n cs x h hw) e4 hw4
  obtain rfl : a0 = .int .i64 n0 := by simpa using q0
  obtain rfl : a1 = .int .i64 n1 := by simpa using q1
  subst q2 q3 q4
  rw [by3] at hM2 hM3
  rw [by86] at hM4
  exact ⟨⟨n0, n1, l2, l3, l4⟩, k28_mk W ⟨n0, n1, l2, l3, l4⟩ hl2 hC2 hl3 hC3 hl4 hC4, ⟨by simp only; omega, by simp only; omega, by simp only; omega, fun y hy => by have := hQ4 y hy; unfold QA at this; omega⟩, hM3⟩
/-- A list of nodes that came in. -/
theorem open_list {H : Type} {enc : TypeId × Value → H} {W : World} {m : Nat} {d : Value} {x : DataW H × List MemPlace} (h : DataW.trod enc Tryd.prog W 0 (fun _ => true) true m 22 [d] = some x) (hw : ∀ v ∈ x.1.weights Tryd.prog 22, v ≤ 140737488351232) :
    ∃ (t : List S28) (A : Option Addr) (c : Nat), d = .slice A t.length c ∧ Ein W t A c := by
  obtain ⟨l, A, c, e, hc, hC, hQ, -⟩ := open_sliceW k28 z28 QE 140737488351232 Tryd.underlying22 ce28 (fun n cs x h hw => open28 n cs x h hw) h hw
  exact ⟨l, A, c, e, fun x hx => (hQ x hx).small, fun x hx => (hQ x hx).kids, hc, hC⟩
end Go.Proofs.YtjhinklijopobaaDoor.Co
