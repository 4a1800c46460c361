import Derived.Test.YtjhinklijopobaaDoorEb
namespace Go.Proofs.YtjhinklijopobaaDoor.Co
open Go.RowKit Go.Proofs.YtjhinklijopobaaDoor.PCoreChecks Go.Proofs.YtjhinklijopobaaDoorW.PrintWords Go.Proofs.YtjhinklijopobaaDoorW.PrintLast Go.Proofs.YtjhinklijopobaaDoorW.PrintMore
set_option linter.unusedVariables false
set_option linter.unusedSimpArgs false

/-! ### A program -/
/-- A program that came in. -/
structure Pin (w : World) (fs : List S91) (mn : Int) (A0 : Option Addr) (c0 : Nat) : Prop where
  small : ∀ f ∈ fs, ∀ x ∈ f.f2, Small x
  kids : ∀ f ∈ fs, ∀ x ∈ f.f2, x.f3.length * 8 ≤ 140737488351232
  hc : fs.length ≤ c0
  hr : Kd.C k91 w A0 fs.length fs
theorem Pin.below {w w' : World} {fs : List S91} {mn : Int} {A0 : Option Addr} {c0 : Nat} (h : Pin w fs mn A0 c0) (hb : Below w.heap.size w w') : Pin w' fs mn A0 c0 := ⟨h.small, h.kids, h.hc, Kd.C_below h.hr hb⟩
def PgP (fs : List S91) (mn : Int) (w : World) (e : Ending) (w' : World) : Prop := e = .returned (.int .i64 (progE fs mn)) ∧ Below w.heap.size w w'
theorem PgP.mk {fs : List S91} {mn : Int} {w w' : World} {v : Int} (h : progE fs mn = v) (hb : Below w.heap.size w w') : PgP fs mn w (.returned (.int .i64 v)) w' := ⟨by rw [h], hb⟩
theorem zp_one (w : World) (fs : List S91) (mn : Int) (A0 : Option Addr) (c0 : Nat) : Zp w fs mn A0 c0 w.heap.size (w.alloc (.cells #[.slice A0 fs.length c0, .int .i64 mn] 51)) := ⟨blk_new _ _, below_alloc (Below.refl _ _) _⟩
theorem zf_one (w : World) (f : S91) (A1 : Option Addr) (c1 : Nat) (A2 : Option Addr) (c2 : Nat) : Zf f A1 c1 A2 c2 w.heap.size (w.alloc (.cells #[.int .i64 f.f0, .slice A1 f.f1.length c1, .slice A2 f.f2.length c2] 91)) := ⟨blk_new _ _⟩

set_option maxHeartbeats 16000000 in
set_option maxRecDepth 100000 in
theorem flatC_calls (fs : List S91) (mn : Int) (A0 : Option Addr) (c0 : Nat) (w : World) (hp : Pin w fs mn A0 c0) (hT : Tab w) :
    Calls Tryd.prog 32 #[.agg #[.slice A0 fs.length c0, .int .i64 mn]] w (PgP fs mn w) := by
  have HPI := Go.Lib.hid hp
  have HFS := Go.Lib.hid hp.hr
  have HT := Go.Lib.hid hT
  have HZ := Go.Lib.hid (zp_one w fs mn A0 c0)
  have HPE := Go.Lib.hid (show progE fs mn = if fs.length = 0 then 3 else if 256 < fs.length then 2 else if mn < 0 ∨ (fs.length : Int) ≤ mn then 4 else if 0 < (rd_T91 fs mn).f1.length then 3 else firstG (fnE fs) fs from rfl)
  obtain ⟨gp, hgp⟩ : ∃ gp : Nat, gp = w.heap.size := ⟨_, rfl⟩
  have HGP := Go.Lib.hid hgp
  obtain ⟨x0, x1⟩ := HZ.out.cells
  clear hp hT
  go_enter Tryd.func32, Tryd.ntmps32
  by_cases h0 : fs.length = 0
  · have d0 : ((fs.length : Int) == 0) = true := beq_iff_eq.2 (by omega)
    have HV := Go.Lib.hid (HPE.out.trans (if_pos h0))
    clear h0 hgp
    go_wp2_with fail
    go_ret
    exact PgP.mk HV.out HZ.out.b
  have d0 : ((fs.length : Int) == 0) = false := beq_eq_false_iff_ne.2 (by omega)
  replace HPE := Go.Lib.hid (HPE.out.trans (if_neg h0))
  by_cases h1 : 256 < fs.length
  · have d1 : decide (256 < fs.length) = true := decide_eq_true h1
    have d1' : decide ((256 : Int) < (fs.length : Int)) = true := decide_eq_true (by omega)
    have HV := Go.Lib.hid (HPE.out.trans (if_pos h1))
    clear h0 h1 hgp
    go_wp2_with fail
    go_ret
    exact PgP.mk HV.out HZ.out.b
  have d1 : decide (256 < fs.length) = false := decide_eq_false h1
  have d1' : decide ((256 : Int) < (fs.length : Int)) = false := decide_eq_false (by omega)
  replace HPE := Go.Lib.hid (HPE.out.trans (if_neg h1))
  have HL := Go.Lib.hid (show fs.length ≤ 256 by omega)
  by_cases h2 : mn < 0
  · have d2 : decide (mn < 0) = true := decide_eq_true h2
    have HV := Go.Lib.hid (HPE.out.trans (if_pos (Or.inl h2)))
    clear h0 h1 h2 hgp
    go_wp2_with fail
    go_ret
    exact PgP.mk HV.out HZ.out.b
  have d2 : decide (mn < 0) = false := decide_eq_false h2
  by_cases h3 : (fs.length : Int) ≤ mn
  · have d3 : decide ((fs.length : Int) ≤ mn) = true := decide_eq_true h3
    have HV := Go.Lib.hid (HPE.out.trans (if_pos (Or.inr h3)))
    clear h0 h1 h2 h3 hgp
    go_wp2_with fail
    go_ret
    exact PgP.mk HV.out HZ.out.b
  have d3 : decide ((fs.length : Int) ≤ mn) = false := decide_eq_false h3
  replace HPE := Go.Lib.hid (HPE.out.trans (if_neg (by omega)))
  have hm0 : 0 ≤ mn := by omega
  have hm1 : mn < (fs.length : Int) := by omega
  obtain ⟨ad, A1, c1, A2, c2, e_, p0, p1, p2, -, -, -, -⟩ := at_T91 (Kd.C_below HFS.out HZ.out.b) mn hm0 hm1
  cases e_
  generalize (rd_T91 fs mn).f1 = pm at p1 HPE
  have dm0 : decide (0 ≤ mn) = true := decide_eq_true hm0
  have dm1 : decide (mn < (fs.length : Int)) = true := decide_eq_true hm1
  replace hm0 := eq_true hm0
  replace hm1 := eq_true hm1
  clear h0 h1 h2 h3 p0 p2 hgp
  by_cases h4 : 0 < pm.length
  · have d4 : decide (0 < pm.length) = true := decide_eq_true h4
    have d4' : decide ((0 : Int) < (pm.length : Int)) = true := decide_eq_true (by omega)
    have HV := Go.Lib.hid (HPE.out.trans (if_pos h4))
    clear h4
    go_wp2_with fail
    go_ret
    exact PgP.mk HV.out HZ.out.b
  have d4 : decide (0 < pm.length) = false := decide_eq_false h4
  have d4' : decide ((0 : Int) < (pm.length : Int)) = false := decide_eq_false (by omega)
  replace HPE := Go.Lib.hid (HPE.out.trans (if_neg h4))
  clear h4
  go_wp2_with fail
  rw [← HGP.out] at HZ ⊢
  go_loopg [41] fs.length (fun g_ v_ w' => ∃ i : Nat, Hid (i + g_ = fs.length) ∧ v_ = .int .i64 i ∧ Hid (progE fs mn = firstG (fnE fs) (fs.drop i)) ∧ Hid (Zp w fs mn (some ad) c0 gp w'))
  case atStart => exact ⟨0, Go.Lib.hid (by omega), rfl, Go.Lib.hid (by rw [List.drop_zero]; exact HPE.out), HZ⟩
  case round =>
    clear HZ HPE x0 x1 p1 d0 d1 d1' d2 d3 d4 d4' dm0 dm1 hm0 hm1
    obtain ⟨i, hi, rfl, HPE, HZ⟩ := hrel
    obtain ⟨wo, hwo⟩ : ∃ wo : World, wo = wr := ⟨_, rfl⟩
    subst hwo
    obtain ⟨ga, hga⟩ : ∃ ga : Nat, ga = gk := ⟨_, rfl⟩
    subst hga
    obtain ⟨x0, x1⟩ := HZ.out.cells
    obtain ⟨n, hn⟩ : ∃ n : Int, n = (i : Int) := ⟨_, rfl⟩
    rw [← hn]
    have HNI := Go.Lib.hid hn
    by_cases hlt : n < (fs.length : Int)
    · have hil : i < fs.length := by omega
      have hi0 : 0 ≤ n := by omega
      have HI := Go.Lib.hid hil
      have dlt : decide (n < (fs.length : Int)) = true := decide_eq_true hlt
      obtain ⟨ad1, A1, c1, A2, c2, e_, p0, p1, p2, l1, g1, l2, g2⟩ := at_T91 HFS.out n hi0 hlt
      cases e_
      replace p0 := pw_cell_below HZ.out.b p0
      replace p1 := pw_cell_below HZ.out.b p1
      replace p2 := pw_cell_below HZ.out.b p2
      have hrd : rd_T91 fs n = fs[i]'hil := by rw [hn, rdF_nat fs i hil]
      rw [hrd] at p0 p1 p2 l1 g1 l2 g2
      have HFDO := Go.Lib.hid (HPE.out.trans (firstG_drop (fnE fs) fs i hil))
      have HFI := Go.Lib.hid (show Fi w (fs[i]'hil) A1 c1 A2 c2 from ⟨HPI.out.small _ (List.getElem_mem hil), HPI.out.kids _ (List.getElem_mem hil), l1, g1, l2, g2⟩)
      obtain ⟨n1, hn1⟩ : ∃ n1 : Int, n1 = n + 1 := ⟨_, rfl⟩
      have HN1 := Go.Lib.hid (show ((i + 1 : Nat) : Int) = n1 by omega)
      have hwn : IntKind.i64.wrap (n + 1) = n1 := by rw [hn1]; exact (i64_w _).trans (wrap_small (by omega) (by have := HL.out; omega))
      generalize fs[i]'hil = f at p0 p1 p2 HFDO HFI
      have hbx := Go.Lib.hid (below_alloc (Below.refl wo.heap.size wo) (.cells #[.int .i64 f.f0, .slice A1 f.f1.length c1, .slice A2 f.f2.length c2] 91))
      replace HZ := Go.Lib.hid (HZ.out.below hbx.out)
      have HG := Go.Lib.hid (zf_one wo f A1 c1 A2 c2)
      obtain ⟨wa, hwa⟩ : ∃ wa, wa = wo.alloc (.cells #[.int .i64 f.f0, .slice A1 f.f1.length c1, .slice A2 f.f2.length c2] 91) := ⟨_, rfl⟩
      obtain ⟨gf, hgf⟩ : ∃ gf : Nat, gf = wo.heap.size := ⟨_, rfl⟩
      have HGF := Go.Lib.hid hgf
      rw [← hwa] at HZ HG
      rw [← hgf] at HG
      have HWA := Go.Lib.hid hwa
      replace hi0 := eq_true hi0
      replace hlt := eq_true hlt
      clear hil hn hrd l1 g1 l2 g2 hn1 hbx hwa hgf
      go_upto_region 12 with fail
      rw [← HWA.out, ← HGF.out]
      clear p0 p1 p2 x0 x1 dlt hi0 hlt
      obtain ⟨y0, y1, y2⟩ := HG.out.cells
      obtain ⟨x0, x1⟩ := HZ.out.cells
      have HFC := Go.Lib.hid (fnError_calls fs mn f (some ad) A1 A2 c0 c1 c2 wa (Kd.C_below HFS.out HZ.out.b) ⟨HFI.out.small, HFI.out.kids, HFI.out.l1, Kd.C_below HFI.out.g1 HZ.out.b, HFI.out.l2, Kd.C_below HFI.out.g2 HZ.out.b⟩ (HT.out.below HZ.out.b))
      go_wp2_with fail
      refine HFC.out.mono ?_
      rintro e w3 ⟨rfl, hb3⟩
      replace HZ := Go.Lib.hid (HZ.out.below hb3)
      clear HFC hb3 x0 x1 y0 y1 y2
      obtain ⟨x0, x1⟩ := HZ.out.cells
      by_cases hf0 : fnE fs f = 0
      · have b1 : (fnE fs f == 0) = true := beq_iff_eq.2 hf0
        have b2 : (fnE fs f != 0) = false := by rw [bne, b1]; rfl
        have HPN := Go.Lib.hid (HFDO.out.trans (if_pos hf0))
        clear hf0
        go_wp2_with fail
        go_roundg (ga - 1)
        case measure => have := hi.out; have := HI.out; omega
        case rel => exact ⟨i + 1, Go.Lib.hid (by have := hi.out; have := HI.out; omega), (by rw [HN1.out]), HPN, HZ⟩
      · have b1 : (fnE fs f == 0) = false := beq_eq_false_iff_ne.2 hf0
        have b2 : (fnE fs f != 0) = true := by rw [bne, b1]; rfl
        have HPN := Go.Lib.hid (HFDO.out.trans (if_neg hf0))
        clear hf0
        go_wp2_with fail
        go_ret
        exact PgP.mk HPN.out HZ.out.b
    · have dlt : decide (n < (fs.length : Int)) = false := decide_eq_false hlt
      have HV := Go.Lib.hid (show progE fs mn = 0 by rw [HPE.out, List.drop_of_length_le (by omega)]; rfl)
      clear hlt hn hi
      go_wp2_with fail
      go_ret
      exact PgP.mk HV.out HZ.out.b
set_option maxHeartbeats 16000000 in
set_option maxRecDepth 100000 in
theorem flatR_calls (fs : List S91) (mn : Int) (A0 : Option Addr) (c0 : Nat) (w : World) (hp : Pin w fs mn A0 c0) (hT : Tab w) :
    Calls Tryd.prog 33 #[.agg #[.slice A0 fs.length c0, .int .i64 mn]] w (PgP fs mn w) := by
  have HPI := Go.Lib.hid hp
  have HFS := Go.Lib.hid hp.hr
  have HT := Go.Lib.hid hT
  have HZ := Go.Lib.hid (zp_one w fs mn A0 c0)
  have HPE := Go.Lib.hid (show progE fs mn = if fs.length = 0 then 3 else if 256 < fs.length then 2 else if mn < 0 ∨ (fs.length : Int) ≤ mn then 4 else if 0 < (rd_T91 fs mn).f1.length then 3 else firstG (fnE fs) fs from rfl)
  obtain ⟨gp, hgp⟩ : ∃ gp : Nat, gp = w.heap.size := ⟨_, rfl⟩
  have HGP := Go.Lib.hid hgp
  obtain ⟨x0, x1⟩ := HZ.out.cells
  clear hp hT
  go_enter Tryd.func33, Tryd.ntmps33
  by_cases h0 : fs.length = 0
  · have d0 : ((fs.length : Int) == 0) = true := beq_iff_eq.2 (by omega)
    have HV := Go.Lib.hid (HPE.out.trans (if_pos h0))
    clear h0 hgp
    go_wp2_with fail
    go_ret
    exact PgP.mk HV.out HZ.out.b
  have d0 : ((fs.length : Int) == 0) = false := beq_eq_false_iff_ne.2 (by omega)
  replace HPE := Go.Lib.hid (HPE.out.trans (if_neg h0))
  by_cases h1 : 256 < fs.length
  · have d1 : decide (256 < fs.length) = true := decide_eq_true h1
    have d1' : decide ((256 : Int) < (fs.length : Int)) = true := decide_eq_true (by omega)
    have HV := Go.Lib.hid (HPE.out.trans (if_pos h1))
    clear h0 h1 hgp
    go_wp2_with fail
    go_ret
    exact PgP.mk HV.out HZ.out.b
  have d1 : decide (256 < fs.length) = false := decide_eq_false h1
  have d1' : decide ((256 : Int) < (fs.length : Int)) = false := decide_eq_false (by omega)
  replace HPE := Go.Lib.hid (HPE.out.trans (if_neg h1))
  have HL := Go.Lib.hid (show fs.length ≤ 256 by omega)
  by_cases h2 : mn < 0
  · have d2 : decide (mn < 0) = true := decide_eq_true h2
    have HV := Go.Lib.hid (HPE.out.trans (if_pos (Or.inl h2)))
    clear h0 h1 h2 hgp
    go_wp2_with fail
    go_ret
    exact PgP.mk HV.out HZ.out.b
  have d2 : decide (mn < 0) = false := decide_eq_false h2
  by_cases h3 : (fs.length : Int) ≤ mn
  · have d3 : decide ((fs.length : Int) ≤ mn) = true := decide_eq_true h3
    have HV := Go.Lib.hid (HPE.out.trans (if_pos (Or.inr h3)))
    clear h0 h1 h2 h3 hgp
    go_wp2_with fail
    go_ret
    exact PgP.mk HV.out HZ.out.b
  have d3 : decide ((fs.length : Int) ≤ mn) = false := decide_eq_false h3
  replace HPE := Go.Lib.hid (HPE.out.trans (if_neg (by omega)))
  have hm0 : 0 ≤ mn := by omega
  have hm1 : mn < (fs.length : Int) := by omega
  obtain ⟨ad, A1, c1, A2, c2, e_, p0, p1, p2, -, -, -, -⟩ := at_T91 (Kd.C_below HFS.out HZ.out.b) mn hm0 hm1
  cases e_
  generalize (rd_T91 fs mn).f1 = pm at p1 HPE
  have dm0 : decide (0 ≤ mn) = true := decide_eq_true hm0
  have dm1 : decide (mn < (fs.length : Int)) = true := decide_eq_true hm1
  replace hm0 := eq_true hm0
  replace hm1 := eq_true hm1
  clear h0 h1 h2 h3 p0 p2 hgp
  by_cases h4 : 0 < pm.length
  · have d4 : decide (0 < pm.length) = true := decide_eq_true h4
    have d4' : decide ((0 : Int) < (pm.length : Int)) = true := decide_eq_true (by omega)
    have HV := Go.Lib.hid (HPE.out.trans (if_pos h4))
    clear h4
    go_wp2_with fail
    go_ret
    exact PgP.mk HV.out HZ.out.b
  have d4 : decide (0 < pm.length) = false := decide_eq_false h4
  have d4' : decide ((0 : Int) < (pm.length : Int)) = false := decide_eq_false (by omega)
  replace HPE := Go.Lib.hid (HPE.out.trans (if_neg h4))
  clear h4
  go_wp2_with fail
  rw [← HGP.out] at HZ ⊢
  go_loopg [46] fs.length (fun g_ v_ w' => ∃ i : Nat, Hid (i + g_ = fs.length) ∧ v_ = .int .i64 i ∧ Hid (progE fs mn = firstG (fnE fs) (fs.drop i)) ∧ Hid (Zp w fs mn (some ad) c0 gp w'))
  case atStart => exact ⟨0, Go.Lib.hid (by omega), rfl, Go.Lib.hid (by rw [List.drop_zero]; exact HPE.out), HZ⟩
  case round =>
    clear HZ HPE x0 x1 p1 d0 d1 d1' d2 d3 d4 d4' dm0 dm1 hm0 hm1
    obtain ⟨i, hi, rfl, HPE, HZ⟩ := hrel
    obtain ⟨wo, hwo⟩ : ∃ wo : World, wo = wr := ⟨_, rfl⟩
    subst hwo
    obtain ⟨ga, hga⟩ : ∃ ga : Nat, ga = gk := ⟨_, rfl⟩
    subst hga
    obtain ⟨x0, x1⟩ := HZ.out.cells
    obtain ⟨n, hn⟩ : ∃ n : Int, n = (i : Int) := ⟨_, rfl⟩
    rw [← hn]
    have HNI := Go.Lib.hid hn
    by_cases hlt : n < (fs.length : Int)
    · have hil : i < fs.length := by omega
      have hi0 : 0 ≤ n := by omega
      have HI := Go.Lib.hid hil
      have dlt : decide (n < (fs.length : Int)) = true := decide_eq_true hlt
      obtain ⟨ad1, A1, c1, A2, c2, e_, p0, p1, p2, l1, g1, l2, g2⟩ := at_T91 HFS.out n hi0 hlt
      cases e_
      replace p0 := pw_cell_below HZ.out.b p0
      replace p1 := pw_cell_below HZ.out.b p1
      replace p2 := pw_cell_below HZ.out.b p2
      have hrd : rd_T91 fs n = fs[i]'hil := by rw [hn, rdF_nat fs i hil]
      rw [hrd] at p0 p1 p2 l1 g1 l2 g2
      have HFDO := Go.Lib.hid (HPE.out.trans (firstG_drop (fnE fs) fs i hil))
      have HFI := Go.Lib.hid (show Fi w (fs[i]'hil) A1 c1 A2 c2 from ⟨HPI.out.small _ (List.getElem_mem hil), HPI.out.kids _ (List.getElem_mem hil), l1, g1, l2, g2⟩)
      obtain ⟨n1, hn1⟩ : ∃ n1 : Int, n1 = n + 1 := ⟨_, rfl⟩
      have HN1 := Go.Lib.hid (show ((i + 1 : Nat) : Int) = n1 by omega)
      have hwn : IntKind.i64.wrap (n + 1) = n1 := by rw [hn1]; exact (i64_w _).trans (wrap_small (by omega) (by have := HL.out; omega))
      generalize fs[i]'hil = f at p0 p1 p2 HFDO HFI
      have hbx := Go.Lib.hid (below_alloc (Below.refl wo.heap.size wo) (.cells #[.int .i64 f.f0, .slice A1 f.f1.length c1, .slice A2 f.f2.length c2] 91))
      replace HZ := Go.Lib.hid (HZ.out.below hbx.out)
      have HG := Go.Lib.hid (zf_one wo f A1 c1 A2 c2)
      obtain ⟨wa, hwa⟩ : ∃ wa, wa = wo.alloc (.cells #[.int .i64 f.f0, .slice A1 f.f1.length c1, .slice A2 f.f2.length c2] 91) := ⟨_, rfl⟩
      obtain ⟨gf, hgf⟩ : ∃ gf : Nat, gf = wo.heap.size := ⟨_, rfl⟩
      have HGF := Go.Lib.hid hgf
      rw [← hwa] at HZ HG
      rw [← hgf] at HG
      have HWA := Go.Lib.hid hwa
      replace hi0 := eq_true hi0
      replace hlt := eq_true hlt
      clear hil hn hrd l1 g1 l2 g2 hn1 hbx hwa hgf
      go_upto_region 12 with fail
      rw [← HWA.out, ← HGF.out]
      clear p0 p1 p2 x0 x1 dlt hi0 hlt
      have HE := Go.Lib.hid (show fnE fs f = if f.f0 < -1 ∨ 1048576 ≤ f.f0 then 4 else if 6 < f.f1.length then 2 else if f.f1.all idB = true then (if bodyErr f.f2 f.f1 true = 0 then firstE (callE fs) f.f2 else bodyErr f.f2 f.f1 true) else 4 from rfl)
      have HBADF := Go.Lib.hid (fun (v : Int) (hv : v ≠ 0) (h : fnE fs f = v) (W' : World) (hb : Below w.heap.size w W') => (PgP.mk (HFDO.out.trans (by rw [h, if_neg hv])) hb : PgP fs mn w (.returned (.int .i64 v)) W'))
      obtain ⟨y0, y1, y2⟩ := HG.out.cells
      obtain ⟨x0, x1⟩ := HZ.out.cells
      by_cases n1 : f.f0 < -1
      · have d1 : decide (f.f0 < -1) = true := decide_eq_true n1
        have HV := Go.Lib.hid (show fnE fs f = 4 by unfold fnE; rw [if_pos (Or.inl n1)])
        clear n1
        go_wp2_with fail
        go_ret
        exact HBADF.out 4 (by decide) HV.out _ HZ.out.b
      have d1 : decide (f.f0 < -1) = false := decide_eq_false n1
      by_cases n2 : 1048576 ≤ f.f0
      · have d2 : decide (1048576 ≤ f.f0) = true := decide_eq_true n2
        have HV := Go.Lib.hid (show fnE fs f = 4 by unfold fnE; rw [if_pos (Or.inr n2)])
        clear n1 n2
        go_wp2_with fail
        go_ret
        exact HBADF.out 4 (by decide) HV.out _ HZ.out.b
      have d2 : decide (1048576 ≤ f.f0) = false := decide_eq_false n2
      replace HE := Go.Lib.hid (HE.out.trans (if_neg (by omega)))
      clear n1 n2
      by_cases n3 : 6 < f.f1.length
      · have d3 : decide (6 < f.f1.length) = true := decide_eq_true n3
        have d4 : decide ((6 : Int) < (f.f1.length : Int)) = true := decide_eq_true (by omega)
        have HV := Go.Lib.hid (show fnE fs f = 2 by rw [HE.out, if_pos n3])
        clear n3
        go_wp2_with fail
        go_ret
        exact HBADF.out 2 (by decide) HV.out _ HZ.out.b
      have d3 : decide (6 < f.f1.length) = false := decide_eq_false n3
      have d4 : decide ((6 : Int) < (f.f1.length : Int)) = false := decide_eq_false (by omega)
      replace HE := Go.Lib.hid (HE.out.trans (if_neg n3))
      have HP6 := Go.Lib.hid (show f.f1.length ≤ 6 by omega)
      clear n3
      go_wp2_with fail
      go_loopg [65] f.f1.length (fun g_ v_ w' => ∃ i : Nat, Hid (i + g_ = f.f1.length) ∧ v_ = .int .i64 i ∧ Hid ((f.f1.take i).all idB = true) ∧ Hid (Zp w fs mn (some ad) c0 gp w') ∧ Hid (Zf f A1 c1 A2 c2 gf w'))
      case atStart => exact ⟨0, Go.Lib.hid (by omega), rfl, Go.Lib.hid rfl, HZ, HG⟩
      case round =>
        clear HZ HG x0 x1 y0 y1 y2 d1 d2 d3 d4
        obtain ⟨j, hj, rfl, hall, HZ, HG⟩ := hrel
        obtain ⟨wi, hwi⟩ : ∃ wi : World, wi = wr := ⟨_, rfl⟩
        subst hwi
        obtain ⟨y0, y1, y2⟩ := HG.out.cells
        obtain ⟨x0, x1⟩ := HZ.out.cells
        obtain ⟨m, hm⟩ : ∃ m : Int, m = (j : Int) := ⟨_, rfl⟩
        rw [← hm]
        have HMJ := Go.Lib.hid hm
        by_cases hlt : m < (f.f1.length : Int)
        · have hjl : j < f.f1.length := by omega
          have hm0 : 0 ≤ m := by omega
          have HJ := Go.Lib.hid hjl
          have dlt : decide (m < (f.f1.length : Int)) = true := decide_eq_true hlt
          obtain ⟨ad5, e_, p0⟩ := Kd.at_int (Kd.C_below HFI.out.g1 HZ.out.b) m hm0 hlt
          cases e_
          have hrd : rd f.f1 m = f.f1[j]'hjl := by rw [hm, rd_nat f.f1 j hjl]
          rw [hrd] at p0
          have HSJ := Go.Lib.hid (fun h => all_snoc idB f.f1 j hjl hall.out h)
          have HNJ := Go.Lib.hid (show idB (f.f1[j]'hjl) = false → fnE fs f = 4 from fun h => by rw [HE.out, if_neg (fun h2 => by have := List.all_eq_true.1 h2 _ (List.getElem_mem hjl); rw [h] at this; contradiction)])
          generalize f.f1[j]'hjl = z at p0 HSJ HNJ
          obtain ⟨m1, hm1⟩ : ∃ m1 : Int, m1 = m + 1 := ⟨_, rfl⟩
          have HM1 := Go.Lib.hid (show ((j + 1 : Nat) : Int) = m1 by omega)
          have hwm : IntKind.i64.wrap (m + 1) = m1 := by rw [hm1]; exact (i64_w _).trans (wrap_small (by omega) (by have := HP6.out; omega))
          replace hm0 := eq_true hm0
          replace hlt := eq_true hlt
          clear hjl hm hm1 hrd
          by_cases q1 : z < 0
          · have e1 : decide (z < 0) = true := decide_eq_true q1
            have HV := Go.Lib.hid (HNJ.out (by unfold idB inB; rw [decide_eq_false (show ¬ 0 ≤ z by omega)]; rfl))
            clear q1
            go_wp2_with fail
            go_ret
            exact HBADF.out 4 (by decide) HV.out _ HZ.out.b
          have e1 : decide (z < 0) = false := decide_eq_false q1
          by_cases q2 : 1048576 ≤ z
          · have e2 : decide (1048576 ≤ z) = true := decide_eq_true q2
            have HV := Go.Lib.hid (HNJ.out (by unfold idB inB; rw [decide_eq_false (show ¬ z ≤ 1048575 by omega), Bool.and_false]))
            clear q1 q2
            go_wp2_with fail
            go_ret
            exact HBADF.out 4 (by decide) HV.out _ HZ.out.b
          have e2 : decide (1048576 ≤ z) = false := decide_eq_false q2
          have HA3 := Go.Lib.hid (HSJ.out (by unfold idB inB; rw [decide_eq_true (show 0 ≤ z by omega), decide_eq_true (show z ≤ 1048575 by omega)]; rfl))
          clear q1 q2
          go_wp2_with fail
          go_roundg (gk - 1)
          case measure => have := hj.out; have := HJ.out; omega
          case rel => exact ⟨j + 1, Go.Lib.hid (by have := hj.out; have := HJ.out; omega), (by rw [HM1.out]), HA3, HZ, HG⟩
        · have dlt : decide (m < (f.f1.length : Int)) = false := decide_eq_false hlt
          have HAI := Go.Lib.hid (show f.f1.all idB = true by have h := hall.out; rw [List.take_of_length_le (by omega)] at h; exact h)
          replace HE := Go.Lib.hid (HE.out.trans (if_pos HAI.out))
          have HBC := Go.Lib.hid (bodyR_calls f.f2 f.f1 true HFI.out.small (by have := HP6.out; omega) A2 A1 c2 c1 wi (Kd.C_below HFI.out.g2 HZ.out.b) HFI.out.l2 (Kd.C_below HFI.out.g1 HZ.out.b) HFI.out.l1)
          clear hlt hm hall hj
          go_wp2_with fail
          refine HBC.out.mono ?_
          rintro e w2 ⟨rfl, hb2⟩
          replace HZ := Go.Lib.hid (HZ.out.below hb2)
          replace HG := Go.Lib.hid (HG.out.below hb2)
          clear hb2 x0 x1 y0 y1 y2 HBC
          obtain ⟨y0, y1, y2⟩ := HG.out.cells
          obtain ⟨x0, x1⟩ := HZ.out.cells
          by_cases hbe : bodyErr f.f2 f.f1 true = 0
          rotate_left
          · have b1 : (bodyErr f.f2 f.f1 true == 0) = false := beq_eq_false_iff_ne.2 hbe
            have b2 : (bodyErr f.f2 f.f1 true != 0) = true := by rw [bne, b1]; rfl
            have HV := Go.Lib.hid (HE.out.trans (if_neg hbe))
            have HB0 := Go.Lib.hid hbe
            clear hbe
            go_wp2_with fail
            go_ret
            exact HBADF.out _ HB0.out HV.out _ HZ.out.b
          have b1 : (bodyErr f.f2 f.f1 true == 0) = true := beq_iff_eq.2 hbe
          have b2 : (bodyErr f.f2 f.f1 true != 0) = false := by rw [bne, b1]; rfl
          replace HE := Go.Lib.hid (HE.out.trans (if_pos hbe))
          have HPOS := Go.Lib.hid (body_pos hbe)
          have HB0 := Go.Lib.hid hbe
          clear hbe
          go_wp2_with fail
          go_loopg [87] f.f2.length (fun g_ v_ w' => ∃ i : Nat, Hid (i + g_ = f.f2.length) ∧ v_ = .int .i64 i ∧ Hid (fnE fs f = firstE (callE fs) (f.f2.drop i)) ∧ Hid (Zp w fs mn (some ad) c0 gp w') ∧ Hid (Zf f A1 c1 A2 c2 gf w'))
          case atStart => exact ⟨0, Go.Lib.hid (by omega), rfl, Go.Lib.hid (by rw [List.drop_zero]; exact HE.out), HZ, HG⟩
          case round =>
            clear HZ HG x0 x1 y0 y1 y2 HE b1 b2
            obtain ⟨q, hq, rfl, HE, HZ, HG⟩ := hrel
            obtain ⟨wo2, hwo2⟩ : ∃ wo2 : World, wo2 = wr := ⟨_, rfl⟩
            subst hwo2
            obtain ⟨y0, y1, y2⟩ := HG.out.cells
            obtain ⟨x0, x1⟩ := HZ.out.cells
            obtain ⟨k, hk⟩ : ∃ k : Int, k = (q : Int) := ⟨_, rfl⟩
            rw [← hk]
            have HKQ := Go.Lib.hid hk
            by_cases hlt : k < (f.f2.length : Int)
            · have hql : q < f.f2.length := by omega
              have hk0 : 0 ≤ k := by omega
              have HQ := Go.Lib.hid hql
              have dlt : decide (k < (f.f2.length : Int)) = true := decide_eq_true hlt
              obtain ⟨ad6, B2, e2, B3, e3, B4, e4, e_, p0, p1, p2, p3, p4, -, -, -, -, -, -⟩ := at_T28 (Kd.C_below HFI.out.g2 HZ.out.b) k hk0 hlt
              cases e_
              have hrd : rd_T28 f.f2 k = f.f2[q]'hql := by rw [hk, rdT_nat f.f2 q hql]
              rw [hrd] at p0 p1 p2 p3 p4
              have HFD := Go.Lib.hid (HE.out.trans (firstE_drop (callE fs) f.f2 q hql))
              have HPX := Go.Lib.hid (HPOS.out _ (List.getElem_mem hql))
              have hl9 : (f.f2.length : Int) ≤ 9223372036854775807 := by have := HFI.out.g2.2.1; omega
              obtain ⟨k1, hk1⟩ : ∃ k1 : Int, k1 = k + 1 := ⟨_, rfl⟩
              have HK1 := Go.Lib.hid (show ((q + 1 : Nat) : Int) = k1 by omega)
              have hwk : IntKind.i64.wrap (k + 1) = k1 := by rw [hk1]; exact (i64_w _).trans (wrap_small (by omega) (by omega))
              generalize f.f2[q]'hql = x at p0 p1 p2 p3 p4 HFD HPX
              have hbx := Go.Lib.hid (below_alloc (Below.refl wo2.heap.size wo2) (.cells #[.int .i64 x.f0, .int .i64 x.f1, .slice B2 x.f2.length e2, .slice B3 x.f3.length e3, .slice B4 x.f4.length e4] 28))
              replace HZ := Go.Lib.hid (HZ.out.below hbx.out)
              replace HG := Go.Lib.hid (HG.out.below hbx.out)
              have HXX := Go.Lib.hid (show (wo2.alloc (.cells #[.int .i64 x.f0, .int .i64 x.f1, .slice B2 x.f2.length e2, .slice B3 x.f3.length e3, .slice B4 x.f4.length e4] 28)).heap[wo2.heap.size]? = some (.cells #[.int .i64 x.f0, .int .i64 x.f1, .slice B2 x.f2.length e2, .slice B3 x.f3.length e3, .slice B4 x.f4.length e4] 28 (0, 0)) from blk_new _ _)
              obtain ⟨wb, hwb⟩ : ∃ wb, wb = wo2.alloc (.cells #[.int .i64 x.f0, .int .i64 x.f1, .slice B2 x.f2.length e2, .slice B3 x.f3.length e3, .slice B4 x.f4.length e4] 28) := ⟨_, rfl⟩
              rw [← hwb] at HZ HG HXX
              have HWB := Go.Lib.hid hwb
              have HCE := Go.Lib.hid (show callE fs x = if x.f0 = 14 ∨ x.f0 = 15 then (if (fs.length : Int) ≤ x.f1 then 4 else if (x.f0 = 14 ∧ ((rd_T91 fs x.f1).f1.length : Int) ≠ (x.f3.length : Int)) ∨ (x.f0 = 15 ∧ ((rd_T91 fs x.f1).f1.length : Int) = 0) then 3 else 0) else 0 from rfl)
              replace hk0 := eq_true hk0
              replace hlt := eq_true hlt
              clear hql hk hk1 hrd hwb hbx hl9
              go_upto_region 28 with fail
              rw [← HWB.out]
              clear p0 p1 p2 p3 p4 x0 x1 y0 y1 y2
              obtain ⟨y0, y1, y2⟩ := HG.out.cells
              obtain ⟨x0, x1⟩ := HZ.out.cells
              have p0 : wb.cell? ⟨wo2.heap.size, 0, none⟩ = some (.int .i64 x.f0) := (blk_cell HXX.out 0).trans rfl
              have p1 : wb.cell? ⟨wo2.heap.size, 1, none⟩ = some (.int .i64 x.f1) := (blk_cell HXX.out 1).trans rfl
              have p2 : wb.cell? ⟨wo2.heap.size, 2, none⟩ = some (.slice B2 x.f2.length e2) := (blk_cell HXX.out 2).trans rfl
              have p3 : wb.cell? ⟨wo2.heap.size, 3, none⟩ = some (.slice B3 x.f3.length e3) := (blk_cell HXX.out 3).trans rfl
              have p4 : wb.cell? ⟨wo2.heap.size, 4, none⟩ = some (.slice B4 x.f4.length e4) := (blk_cell HXX.out 4).trans rfl
              by_cases ho : x.f0 = 14 ∨ x.f0 = 15
              rotate_left
              · have o1 : (x.f0 == 14) = false := beq_eq_false_iff_ne.2 (fun h => ho (Or.inl h))
                have o2 : (x.f0 != 14) = true := by rw [bne, o1]; rfl
                have o3 : (x.f0 == 15) = false := beq_eq_false_iff_ne.2 (fun h => ho (Or.inr h))
                have o4 : (x.f0 != 15) = true := by rw [bne, o3]; rfl
                have HN3 := Go.Lib.hid (HFD.out.trans (if_pos (by rw [HCE.out, if_neg ho])))
                clear ho
                go_wp2_with fail
                go_roundg (gk - 1)
                case measure => have := hq.out; have := HQ.out; omega
                case rel => exact ⟨q + 1, Go.Lib.hid (by have := hq.out; have := HQ.out; omega), (by rw [HK1.out]), HN3, HZ, HG⟩
              replace HCE := Go.Lib.hid (HCE.out.trans (if_pos ho))
              have hx0 := HPX.out ho
              have hop : (x.f0 = 14 ∧ (x.f0 == 14) = true ∧ (x.f0 != 14) = false ∧ (x.f0 == 15) = false ∧ (x.f0 != 15) = true) ∨ (x.f0 = 15 ∧ (x.f0 == 14) = false ∧ (x.f0 != 14) = true ∧ (x.f0 == 15) = true ∧ (x.f0 != 15) = false) := by
                rcases ho with h | h
                · refine Or.inl ⟨h, ?_⟩; rw [h]; decide
                · refine Or.inr ⟨h, ?_⟩; rw [h]; decide
              by_cases hnl : (fs.length : Int) ≤ x.f1
              · have l1 : decide ((fs.length : Int) ≤ x.f1) = true := decide_eq_true hnl
                have HV := Go.Lib.hid (show fnE fs f = 4 by rw [HFD.out, HCE.out, if_pos hnl]; rfl)
                clear hnl hx0 ho
                rcases hop with ⟨ho, o1, o2, o3, o4⟩ | ⟨ho, o1, o2, o3, o4⟩
                all_goals
                  clear ho
                  go_wp2_with fail
                  go_ret
                  exact HBADF.out 4 (by decide) HV.out _ HZ.out.b
              have l1 : decide ((fs.length : Int) ≤ x.f1) = false := decide_eq_false hnl
              replace HCE := Go.Lib.hid (HCE.out.trans (if_neg hnl))
              have hx1 : x.f1 < (fs.length : Int) := by omega
              obtain ⟨ad7, C1, h1, C2, h2, e_, r0, r1, r2, -, -, -, -⟩ := at_T91 (Kd.C_below HFS.out HZ.out.b) x.f1 hx0 hx1
              cases e_
              generalize (rd_T91 fs x.f1).f1 = ps at r1 HCE
              have dx0 : decide (0 ≤ x.f1) = true := decide_eq_true hx0
              have dx1 : decide (x.f1 < (fs.length : Int)) = true := decide_eq_true hx1
              replace hx0 := eq_true hx0
              replace hx1 := eq_true hx1
              clear hnl ho r0 r2
              rcases hop with ⟨ho, o1, o2, o3, o4⟩ | ⟨ho, o1, o2, o3, o4⟩
              · by_cases hkl : (ps.length : Int) = (x.f3.length : Int)
                · have k1_ : ((ps.length : Int) == (x.f3.length : Int)) = true := beq_iff_eq.2 hkl
                  have k2_ : ((ps.length : Int) != (x.f3.length : Int)) = false := by rw [bne, k1_]; rfl
                  have k3_ : ((x.f3.length : Int) == (ps.length : Int)) = true := beq_iff_eq.2 hkl.symm
                  have k4_ : ((x.f3.length : Int) != (ps.length : Int)) = false := by rw [bne, k3_]; rfl
                  have HN3 := Go.Lib.hid (HFD.out.trans (if_pos (by rw [HCE.out, if_neg (by omega)])))
                  clear ho hkl
                  go_wp2_with fail
                  go_roundg (gk - 1)
                  case measure => have := hq.out; have := HQ.out; omega
                  case rel => exact ⟨q + 1, Go.Lib.hid (by have := hq.out; have := HQ.out; omega), (by rw [HK1.out]), HN3, HZ, HG⟩
                · have k1_ : ((ps.length : Int) == (x.f3.length : Int)) = false := beq_eq_false_iff_ne.2 hkl
                  have k2_ : ((ps.length : Int) != (x.f3.length : Int)) = true := by rw [bne, k1_]; rfl
                  have k3_ : ((x.f3.length : Int) == (ps.length : Int)) = false := beq_eq_false_iff_ne.2 (fun h => hkl h.symm)
                  have k4_ : ((x.f3.length : Int) != (ps.length : Int)) = true := by rw [bne, k3_]; rfl
                  have HC3 := HCE.out.trans (if_pos (by omega)); have HV := Go.Lib.hid (show fnE fs f = 3 by rw [HFD.out, HC3]; rfl); clear HC3
                  clear ho hkl
                  go_wp2_with fail
                  go_ret
                  exact HBADF.out 3 (by decide) HV.out _ HZ.out.b
              · by_cases hkl : (ps.length : Int) = 0
                · have k1_ : ((ps.length : Int) == 0) = true := beq_iff_eq.2 hkl
                  have k2_ : decide ((ps.length : Int) < 1) = true := decide_eq_true (by omega)
                  have HC3 := HCE.out.trans (if_pos (by omega)); have HV := Go.Lib.hid (show fnE fs f = 3 by rw [HFD.out, HC3]; rfl); clear HC3
                  clear ho hkl
                  go_wp2_with fail
                  go_ret
                  exact HBADF.out 3 (by decide) HV.out _ HZ.out.b
                · have k1_ : ((ps.length : Int) == 0) = false := beq_eq_false_iff_ne.2 hkl
                  have k2_ : decide ((ps.length : Int) < 1) = false := decide_eq_false (by omega)
                  have HN3 := Go.Lib.hid (HFD.out.trans (if_pos (by rw [HCE.out, if_neg (by omega)])))
                  clear ho hkl
                  go_wp2_with fail
                  go_roundg (gk - 1)
                  case measure => have := hq.out; have := HQ.out; omega
                  case rel => exact ⟨q + 1, Go.Lib.hid (by have := hq.out; have := HQ.out; omega), (by rw [HK1.out]), HN3, HZ, HG⟩
            · have dlt : decide (k < (f.f2.length : Int)) = false := decide_eq_false hlt
              have HOK := Go.Lib.hid (show fnE fs f = 0 by rw [HE.out, List.drop_of_length_le (by omega)]; rfl)
              clear hlt hk hq
              go_wp2_with fail
              go_roundg (ga - 1)
              case measure => have := hi.out; have := HI.out; omega
              case rel => exact ⟨i + 1, Go.Lib.hid (by have := hi.out; have := HI.out; omega), (by rw [HN1.out]), Go.Lib.hid (HFDO.out.trans (if_pos HOK.out)), HZ⟩
    · have dlt : decide (n < (fs.length : Int)) = false := decide_eq_false hlt
      have HV := Go.Lib.hid (show progE fs mn = 0 by rw [HPE.out, List.drop_of_length_le (by omega)]; rfl)
      clear hlt hn hi
      go_wp2_with fail
      go_ret
      exact PgP.mk HV.out HZ.out.b
end Go.Proofs.YtjhinklijopobaaDoor.Co
