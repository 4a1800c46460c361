import Derived.Test.YtemdfhaceddmpaaPl
import Derived.RegionTactic
import Derived.BigRegion
import Derived.IntWalk
namespace Go.Proofs.Ytemdfhaceddmpaa.Tr
open Go.Shelf Go.RowKit Go.Proofs.Ytemdfhaceddmpaa.PPrinterTells Go.Proofs.YtemdfhaceddmpaaW.PrintWords Go.Proofs.YtemdfhaceddmpaaW.PrintLast Go.Proofs.YtemdfhaceddmpaaW.PrintMore
attribute [local go_sem] max2_int max_two
set_option linter.unusedVariables false
set_option linter.unusedSimpArgs false

theorem kb4 (b1 b2 b3 b4 : Bool) (h : b4 = false → b3 = true) : (b1 || b2 || (b3 != !b4)) = (b1 || b2 || (b3 && b4)) := by
  cases b1 <;> cases b2 <;> cases b3 <;> cases b4 <;> simp_all
theorem two_made (w : World) (n : Nat) (hn : 0 < n) : IA ((w.alloc (.cells (madeCells #[.int .i64 0] n) 3)).alloc (.cells (madeCells #[.int .i64 0] n) 3)).drew w.heap.size (Uf [] n) ∧ IA ((w.alloc (.cells (madeCells #[.int .i64 0] n) 3)).alloc (.cells (madeCells #[.int .i64 0] n) 3)).drew (w.heap.size + 1) (List.replicate n 0) ∧
    Below w.heap.size w ((w.alloc (.cells (madeCells #[.int .i64 0] n) 3)).alloc (.cells (madeCells #[.int .i64 0] n) 3)).drew ∧ ∀ t : List S27, dfn t 0 n = List.replicate n 0 := by
  refine ⟨?_, ?_, below_drew (below_alloc (below_alloc (Below.refl _ _) _) _), fun t => by unfold dfn; rw [if_pos hn, ← dar_start t n hn]⟩
  · rw [Uf_nil]
    exact blk_drew (blk_alloc (IA.made w n) _)
  · have h := IA.made (w.alloc (.cells (madeCells #[.int .i64 0] n) 3)) n
    rw [show (w.alloc (.cells (madeCells #[.int .i64 0] n) 3)).heap.size = w.heap.size + 1 by simp] at h
    exact blk_drew h

set_option maxHeartbeats 16000000 in
set_option maxRecDepth 100000 in
theorem check_calls (t : List S27) (A0 : Option Addr) (c0 : Nat) (w : World) (hr : Kd.C k27 w A0 t.length t) (hc : t.length ≤ c0) (hl : ∀ x ∈ t, x.f3.length * 8 ≤ 140737488351232) :
    Calls Try.prog 5 #[.slice A0 t.length c0] w fun e w' => e = .returned (.int .i64 (treeErr t)) ∧ Below w.heap.size w w' := by
  obtain ⟨rv, hrv⟩ : ∃ rv : Int, rv = treeErr t := ⟨_, rfl⟩
  have HRV := Go.Lib.hid hrv
  rw [← hrv]
  clear hrv
  have htm : t.length ≤ 9223372036854775807 := hr.2.1
  by_cases hbig : 4096 < t.length
  · have d1 : decide (4096 < t.length) = true := decide_eq_true hbig
    have d2 : decide ((4096 : Int) < (t.length : Int)) = true := decide_eq_true (by omega)
    have HV := Go.Lib.hid (show rv = 2 by rw [HRV.out, treeErr, if_pos hbig])
    clear hr hl hbig
    go_enter Try.func5, Try.ntmps5
    go_wp2_with fail
    go_ret
    exact ⟨by rw [HV.out]; rfl, Below.refl _ _⟩
  have d1 : decide (4096 < t.length) = false := decide_eq_false hbig
  have d2 : decide ((4096 : Int) < (t.length : Int)) = false := decide_eq_false (by omega)
  by_cases h0 : t.length = 0
  · have e1 : ((t.length : Int) == 0) = true := beq_iff_eq.2 (by omega)
    have e2 : (t.length == 0) = true := beq_iff_eq.2 h0
    have HV := Go.Lib.hid (show rv = 3 by rw [HRV.out, treeErr, if_neg hbig, if_pos h0])
    clear hr hl hbig h0
    go_enter Try.func5, Try.ntmps5
    go_wp2_with fail
    go_ret
    exact ⟨by rw [HV.out]; rfl, Below.refl _ _⟩
  have e1 : ((t.length : Int) == 0) = false := beq_eq_false_iff_ne.2 (by omega)
  have e2 : (t.length == 0) = false := beq_eq_false_iff_ne.2 h0
  have ht9 : (t.length : Int) ≤ 4096 := by omega
  have ht1 : (1 : Int) ≤ (t.length : Int) := by omega
  have hlt1 : (t.length : Int) - 1 < (t.length : Int) := by omega
  obtain ⟨ad, _, _, rfl, p0, -, -, -, -, -, -, -⟩ := at_T27 hr ((t.length : Int) - 1) (by omega) hlt1
  have HR := Go.Lib.hid hr
  have HL := Go.Lib.hid hl
  have HT := Go.Lib.hid (show t.length ≤ 4096 by omega)
  have HT1 := Go.Lib.hid (show 0 < t.length by omega)
  have HE := Go.Lib.hid (show treeErr t = if kd t ((t.length : Int) - 1) = 0 then (if firstE (ndErr t) 0 t.length = 0 then (if cntOk t = true then 0 else 3) else firstE (ndErr t) 0 t.length) else 3 by rw [treeErr, if_neg hbig, if_neg h0])
  have HKD := Go.Lib.hid (show kd t ((t.length : Int) - 1) = (rd_T27 t ((t.length : Int) - 1)).f0 from rfl)
  generalize (rd_T27 t ((t.length : Int) - 1)).f0 = kl at p0 HKD
  have hn : ((t.length : Int) - 1).toNat = t.length - 1 := by omega
  rw [hn] at p0
  clear hr hl hbig h0
  by_cases hkl : kl = 0
  rotate_left
  · have f1 : (kl != 0) = true := bne_iff_ne.2 hkl
    have HV := Go.Lib.hid (show rv = 3 by rw [HRV.out, HE.out, HKD.out, if_neg hkl])
    clear hkl
    go_enter Try.func5, Try.ntmps5
    go_wp2_with fail
    go_ret
    exact ⟨by rw [HV.out]; rfl, Below.refl _ _⟩
  have f1 : (kl != 0) = false := bne_eq_false_iff_eq.2 hkl
  have HV := Go.Lib.hid (show rv = if firstE (ndErr t) 0 t.length = 0 then (if cntOk t = true then 0 else 3) else firstE (ndErr t) 0 t.length by rw [HRV.out, HE.out, HKD.out, if_pos hkl])
  have HLAST := Go.Lib.hid (show kd t ((t.length : Int) - 1) = 0 by rw [HKD.out, hkl])
  clear hkl HRV HE HKD
  have hmk : ∀ W : World, (Instr.makeSlice 25 (.int .i64 (t.length : Int)) (.int .i64 (t.length : Int))).run Try.prog W = .ok (.slice (some ⟨W.heap.size, 0, none⟩) t.length t.length) (W.alloc (.cells (madeCells #[.int .i64 0] t.length) 3)) :=
    print_make (P := Try.prog) 25 3 .i64 8 Try.underlying25 info3 (by decide) t.length (by have := HT.out; omega)
  have hn9 : ((t.length - 1 : Nat) : Int) ≤ 4096 := by omega
  clear hn
  go_enter Try.func5, Try.ntmps5
  go_upto_region 5 with fail
  go_cut [3, 4] (fun s3 s4 wx => ∃ gU gD : Nat, s3 = .slice (some ⟨gU, 0, none⟩) t.length t.length ∧ s4 = .slice (some ⟨gD, 0, none⟩) t.length t.length ∧ Hid (IA wx gU (Uf [] t.length) ∧ IA wx gD (dfn t 0 t.length) ∧ w.heap.size ≤ gU ∧ w.heap.size ≤ gD ∧ gU ≠ gD ∧ Below w.heap.size w wx))
  case first =>
    have HTM := Go.Lib.hid (two_made w t.length HT1.out)
    go_region
    · go_wp2_with fail
      go_meet
      exact ⟨w.heap.size, w.heap.size + 1, rfl, rfl, Go.Lib.hid ⟨HTM.out.1, by rw [HTM.out.2.2.2]; exact HTM.out.2.1, Nat.le_refl _, by omega, by omega, HTM.out.2.2.1⟩⟩
    · go_wp2_with fail
      go_meet
      exact ⟨w.heap.size + 1, w.heap.size, rfl, rfl, Go.Lib.hid ⟨by rw [Uf_nil]; exact HTM.out.2.1, by rw [HTM.out.2.2.2, ← Uf_nil]; exact HTM.out.1, by omega, Nat.le_refl _, by omega, HTM.out.2.2.1⟩⟩
  case rest =>
    obtain ⟨gU, gD, rfl, rfl, hS⟩ := hcut
    have HGG := Go.Lib.hid (show w.heap.size ≤ gU ∧ w.heap.size ≤ gD ∧ gU ≠ gD from ⟨hS.out.2.2.1, hS.out.2.2.2.1, hS.out.2.2.2.2.1⟩)
    clear p0 f1 hmk
    go_wp2_with fail
    go_loopg [38] t.length (fun g_ v38 w' => ∃ i : Nat, Hid (i + g_ = t.length) ∧ v38 = .int .i64 i ∧ Hid (∀ k, k < i → ndErr t k = 0) ∧ Hid (firstE (ndErr t) 0 t.length = firstE (ndErr t) i (t.length - i)) ∧ Hid (IA w' gU (Uf ((t.take i).flatMap S27.f3) t.length)) ∧ Hid (IA w' gD (dfn t i t.length)) ∧ Hid (Below w.heap.size w w'))
    case atStart => exact ⟨0, Go.Lib.hid (by omega), rfl, Go.Lib.hid (by omega), Go.Lib.hid (by rw [Nat.sub_zero]), Go.Lib.hid hS.out.1, Go.Lib.hid hS.out.2.1, Go.Lib.hid hS.out.2.2.2.2.2⟩
    case round =>
      clear hS
      obtain ⟨i, hi, rfl, hz, hf, hU, hD, hb⟩ := hrel
      obtain ⟨wo, hwo⟩ : ∃ wo : World, wo = wr := ⟨_, rfl⟩
      subst hwo
      obtain ⟨ga, hga⟩ : ∃ ga : Nat, ga = gk := ⟨_, rfl⟩
      subst hga
      by_cases hlt : i < t.length
      · have hlt' : (i : Int) < (t.length : Int) := by omega
        have hi0 : (0 : Int) ≤ (i : Int) := by omega
        have HI := Go.Lib.hid hlt
        obtain ⟨ad2, A3, c3, e_, p0, p1, p2, p3, p4, p5, l3, g3⟩ := at_T27 HR.out (i : Int) hi0 hlt'
        cases e_
        rw [rdT_nat t i hlt] at p0 p1 p2 p3 p4 p5 l3 g3
        rw [Int.toNat_natCast] at p0 p1 p2 p3 p4 p5
        replace p0 := pw_cell_below hb.out p0
        replace p1 := pw_cell_below hb.out p1
        replace p2 := pw_cell_below hb.out p2
        replace p3 := pw_cell_below hb.out p3
        replace p4 := pw_cell_below hb.out p4
        replace p5 := pw_cell_below hb.out p5
        have HLX := Go.Lib.hid (HL.out _ (List.getElem_mem hlt))
        have HNE := Go.Lib.hid (show ndErr t i = nErr t i (rd_T27 t (i : Int)) from rfl)
        rw [rdT_nat t i hlt] at HNE
        have HTK := Go.Lib.hid (show (t.take (i + 1)).flatMap S27.f3 = (t.take i).flatMap S27.f3 ++ (t[i]'hlt).f3 by rw [List.take_succ_eq_append_getElem hlt, List.flatMap_append, List.flatMap_cons, List.flatMap_nil, List.append_nil])
        have HDN := Go.Lib.hid (dfn_next t i t.length hlt hlt)
        have HDEP := Go.Lib.hid (show rd (deps (t.take (i + 1))) i = mxk (deps (t.take i)) (t[i]'hlt).f3 0 + 1 by
          rw [List.take_succ_eq_append_getElem hlt, deps_snoc]
          have hl2 : (deps (t.take i)).length = i := by rw [deps_len, List.length_take]; omega
          unfold rd
          rw [Int.toNat_natCast, List.getD_eq_getElem?_getD, List.getElem?_append_right (by omega), hl2, Nat.sub_self]; rfl)
        have HCB := Go.Lib.hid (show ∀ k : Int, ((t.take i).flatMap S27.f3).count k ≤ i * 17592186044416 from fun k => cnt_bound t HL.out i k)
        have HKL := Go.Lib.hid (show i = t.length - 1 → (t[i]'hlt).f0 = 0 from fun e => by
          have h := HLAST.out
          rw [show ((t.length : Int) - 1) = (i : Int) by omega] at h
          unfold kd at h
          rwa [rdT_nat t i hlt] at h)
        generalize t[i]'hlt = x at p0 p1 p2 p3 p4 p5 l3 g3 HLX HNE HTK HDN HDEP HKL
        have G3 := Go.Lib.hid g3
        have hxl : (x.f3.length : Int) ≤ 9223372036854775807 := by have := G3.out.2.1; omega
        have HNX := Go.Lib.hid (show firstE (ndErr t) 0 t.length = if ndErr t i = 0 then firstE (ndErr t) (i + 1) (t.length - (i + 1)) else ndErr t i by
          rw [hf.out, show t.length - i = (t.length - (i + 1)) + 1 by omega]; rfl)
        have HRET := Go.Lib.hid (show ∀ e : Int, nErr t i x = e → ¬ e = 0 → rv = e from fun e h1 h2 => by
          have h : firstE (ndErr t) 0 t.length = e := by rw [HNX.out, HNE.out, h1, if_neg h2]
          rw [HV.out, h, if_neg h2])
        have HD0 := Go.Lib.hid (show IA wo gD (dar t i (mxk (deps (t.take i)) ([] : List Int) 0) t.length) by have h := hD.out; unfold dfn at h; rw [if_pos hlt] at h; exact h)
        have HC0 := Go.Lib.hid (CL.start (n := t.length) (x := x) (A3 := A3) (c3 := c3) hb.out hU.out HD0.out HGG.out.1 HGG.out.2.1 HGG.out.2.2)
        clear hlt g3 l3 hU hD HD0 hf
        go_wp2_with fail
        go_loopg [7, 46] x.f3.length (fun g_ v7 v46 w' => ∃ (j : Nat) (l : List Int) (A : Option Addr) (c : Nat), Hid (j + g_ = x.f3.length) ∧ v46 = .int .i64 j ∧ v7 = .slice A l.length c ∧ Hid (l = (x.f3.take j).map (kd t)) ∧ Hid (badK i (x.f3.take j) = false) ∧ Hid (CL w w' wo.heap.size gU gD t.length x A3 c3 (.slice A l.length c) l (Uf ((t.take i).flatMap S27.f3 ++ x.f3.take j) t.length) (dar t i (mxk (deps (t.take i)) (x.f3.take j) 0) t.length)))
        case atStart => exact ⟨0, [], none, 0, Go.Lib.hid (by omega), rfl, rfl, Go.Lib.hid rfl, Go.Lib.hid rfl, Go.Lib.hid (by rw [List.take_zero, List.append_nil]; exact HC0.out)⟩
        case round =>
          clear p0 p1 p2 p3 p4 p5 HC0
          obtain ⟨j, l, A, c, hj, rfl, rfl, hl, hbk, hC⟩ := hrel
          obtain ⟨wi, hwi⟩ : ∃ wi : World, wi = wr := ⟨_, rfl⟩
          subst hwi
          by_cases hlt : j < x.f3.length
          · have hlt2 : (j : Int) < (x.f3.length : Int) := by omega
            have hj0 : (0 : Int) ≤ (j : Int) := by omega
            obtain ⟨ad3, e_, q0⟩ := Kd.at_int (Kd.C_below G3.out hC.out.below) (j : Int) hj0 hlt2
            subst e_
            rw [rd_nat _ j hlt, Int.toNat_natCast] at q0
            have HTJ := Go.Lib.hid (List.take_succ_eq_append_getElem hlt)
            have HLJ := Go.Lib.hid hlt
            have HLL := Go.Lib.hid (show l.length = j by rw [hl.out, List.length_map, List.length_take]; omega)
            generalize x.f3[j] = y at q0 HTJ
            clear hlt
            by_cases hy0 : y < 0
            · have hd : decide (y < 0) = true := decide_eq_true hy0
              have HV3 := Go.Lib.hid (show rv = 3 from HRET.out 3 (by
                rw [nErr, if_pos]
                refine badK_of_take (j := j + 1) ?_
                rw [HTJ.out, badK_snoc, hd]; simp) (by decide))
              clear hy0
              go_wp2_with fail
              go_ret
              exact ⟨by rw [HV3.out]; rfl, hC.out.below⟩
            have hd : decide (y < 0) = false := decide_eq_false hy0
            by_cases hy1 : (i : Int) ≤ y
            · have hd1 : decide ((i : Int) ≤ y) = true := decide_eq_true hy1
              have HV3 := Go.Lib.hid (show rv = 3 from HRET.out 3 (by
                rw [nErr, if_pos]
                refine badK_of_take (j := j + 1) ?_
                rw [HTJ.out, badK_snoc, hd1]; simp) (by decide))
              clear hy0 hy1
              go_wp2_with fail
              go_ret
              exact ⟨by rw [HV3.out]; rfl, hC.out.below⟩
            have hd1 : decide ((i : Int) ≤ y) = false := decide_eq_false hy1
            have HBK := Go.Lib.hid (show badK i (x.f3.take (j + 1)) = false by rw [HTJ.out, badK_snoc, hbk.out, hd, hd1]; rfl)
            obtain ⟨yn, rfl⟩ : ∃ yn : Nat, y = yn := ⟨y.toNat, by omega⟩
            have hy2 : (0 : Int) ≤ (yn : Int) := by omega
            have hyi : (yn : Int) < (i : Int) := by omega
            have hd1' : decide (i ≤ yn) = false := decide_eq_false (by omega)
            have hy3 : (yn : Int) < (t.length : Int) := by omega
            obtain ⟨adt, _, _, e_, r0, -, -, -, -, -, -, -⟩ := at_T27 HR.out (yn : Int) hy2 hy3
            cases e_
            rw [Int.toNat_natCast] at r0
            have HKD := Go.Lib.hid (show kd t (yn : Int) = (rd_T27 t (yn : Int)).f0 from rfl)
            have HL1 := Go.Lib.hid (show l ++ [kd t (yn : Int)] = (x.f3.take (j + 1)).map (kd t) by rw [HTJ.out, List.map_append, ← hl.out]; rfl)
            generalize (rd_T27 t (yn : Int)).f0 = ky at r0 HKD
            rw [HKD.out] at HL1
            have HR0 := Go.Lib.hid r0
            have HUN := Go.Lib.hid (Uf_snoc ((t.take i).flatMap S27.f3 ++ x.f3.take j) t.length yn (by omega))
            have HUB := Go.Lib.hid (show ((t.take i).flatMap S27.f3 ++ x.f3.take j).count (yn : Int) < 4611686018427387904 by
              have h1 := List.count_le_length (l := x.f3.take j) (a := (yn : Int))
              rw [List.length_take] at h1
              rw [List.count_append]
              have := HCB.out (yn : Int); have := HLX.out; have := HT.out; have := HI.out
              omega)
            have u1 := hC.out.iu.cell yn (Uf_at _ t.length yn (by omega))
            have uf := hC.out.iu.frozen yn
            have HMX := Go.Lib.hid (show mxk (deps (t.take i)) (x.f3.take (j + 1)) 0 = if mxk (deps (t.take i)) (x.f3.take j) 0 < rd (deps (t.take i)) yn then rd (deps (t.take i)) yn else mxk (deps (t.take i)) (x.f3.take j) 0 by rw [HTJ.out, mxk_snoc])
            generalize ((t.take i).flatMap S27.f3 ++ x.f3.take j).count (yn : Int) = cu at u1 HUN HUB
            have hcu : IntKind.i64.wrap ((cu : Int) + 1) = (cu : Int) + 1 := IntWalk.i64_in _ (by have := HUB.out; omega)
            have hC1 := Go.Lib.hid (show CL w (wi.setCell ⟨gU, yn, none⟩ (.int .i64 ((cu : Int) + 1))) wo.heap.size gU gD t.length x (some ad3) c3 (.slice A l.length c) l (Uf ((t.take i).flatMap S27.f3 ++ x.f3.take (j + 1)) t.length) (dar t i (mxk (deps (t.take i)) (x.f3.take j) 0) t.length) by
              have h := hC.out.putU yn ((cu : Int) + 1)
              rw [HUN.out, List.append_assoc, ← HTJ.out] at h
              exact h)
            generalize mxk (deps (t.take i)) (x.f3.take j) 0 = m at hC hC1 HMX
            clear hy0 hy1 r0 hl hbk
            go_upto_region 16 with fail
            have HMD := Go.Lib.hid (mxk_bound (d := deps (t.take i)) (B := i) (by omega) (fun y hy => by have := deps_bound (t.take i) y hy; rw [List.length_take] at this; omega))
            go_cut [] from 63 to 74 (fun wx => Hid (CL w wx wo.heap.size gU gD t.length x (some ad3) c3 (.slice A l.length c) l (Uf ((t.take i).flatMap S27.f3 ++ x.f3.take (j + 1)) t.length) (dar t i (mxk (deps (t.take i)) (x.f3.take (j + 1)) 0) t.length)))
            case first => as_aux_lemma =>
              have d1 := hC1.out.id.cell yn (dar_old t i t.length m yn (by omega) hyi (by have := HI.out; omega))
              have d2 := hC1.out.id.cell i (dar_at t i t.length m (by have := HI.out; omega))
              have df := hC1.out.id.frozen i
              generalize rd (deps (t.take i)) (yn : Int) = dy at d1 HMX
              by_cases hm : m < dy
              · have hd3 : decide (m < dy) = true := decide_eq_true hm
                have HMX2 := Go.Lib.hid (show mxk (deps (t.take i)) (x.f3.take (j + 1)) 0 = dy by rw [HMX.out, if_pos hm])
                go_region
                go_wp2_with fail
                go_meet
                have h := hC1.out.putD i dy
                rw [dar_set t i t.length m dy (by have := HI.out; omega)] at h
                rw [HMX2.out]
                exact Go.Lib.hid (h.lift (below_drew (Below.refl _ _)))
              · have hd3 : decide (m < dy) = false := decide_eq_false hm
                have HMX2 := Go.Lib.hid (show mxk (deps (t.take i)) (x.f3.take (j + 1)) 0 = m by rw [HMX.out, if_neg hm])
                go_region
                go_wp2_with fail
                go_meet
                have h := hC1.out.putD i m
                rw [dar_set t i t.length m m (by have := HI.out; omega)] at h
                rw [HMX2.out]
                exact Go.Lib.hid (h.lift (below_drew (Below.refl _ _)))
            case rest =>
              have hC2 := hcut
              clear hcut hC1 hC u1 uf hcu HMX HUN
              have r0 := pw_cell_below hC2.out.below HR0.out
              go_wp2_with ((with_reducible refine gate_builtin (b := .append) (xs := #[.tmp 75, .tmp 81]) rfl ?_); at_builtin; refine print_append_num (w0 := wc) wo.heap.size rfl (.tmp 75) (.tmp 81) 25 3 .i64 8 rfl Try.underlying25 info3 (by decide) (.slice A l.length c) l ky rfl (by first | rfl | (go_simp; done) | (go_simp; rfl)) ?q1 ?q2 ?q3 ?q4 ?_; (case q1 => exact hC2.out.own); (case q2 => exact Below.refl _ _); (case q3 => exact Nat.le_of_lt (blk_lt hC2.out.box)); (case q4 => have q1_ := HLX.out; have q2_ := HLL.out; have q3_ := HLJ.out; omega); intro v1 w9 ho9 hb9 hg9 hat9; obtain ⟨A9, c9, rfl⟩ := own_slice ho9; have HN9 := Go.Lib.hid (hC2.out.app ho9 hb9 hg9); clear ho9 hb9 hg9 hat9)
              go_roundg (gk - 1)
              case measure => have := hj.out; have := HLJ.out; omega
              case rel => exact ⟨j + 1, l ++ [ky], A9, c9, Go.Lib.hid (by have := hj.out; have := HLJ.out; omega), by go_num, by rw [List.length_append, List.length_singleton], HL1, HBK, HN9⟩
          · have hd : decide ((j : Int) < (x.f3.length : Int)) = false := decide_eq_false (by omega)
            have hd2 : decide (j < x.f3.length) = false := decide_eq_false hlt
            have hd3 : ¬ (j : Int) < (x.f3.length : Int) := by omega
            have HJ := Go.Lib.hid (show x.f3.take j = x.f3 by rw [List.take_of_length_le (by omega)])
            rw [HJ.out] at hl hbk hC
            rw [← HTK.out] at hC
            have HLL := Go.Lib.hid (show l.length = x.f3.length by rw [hl.out, List.length_map])
            have HMD := Go.Lib.hid (mxk_bound (d := deps (t.take i)) (B := i) (by omega) (fun y hy => by have := deps_bound (t.take i) y hy; rw [List.length_take] at this; omega) x.f3)
            clear hlt hj HJ
            generalize mxk (deps (t.take i)) x.f3 0 = m at *
            have d2 := hC.out.id.cell i (dar_at t i t.length m (by have := HI.out; omega))
            have df := hC.out.id.frozen i
            have hm0 : 0 ≤ m := HMD.out.1
            have hm1 : m ≤ (i : Int) := HMD.out.2
            have hC1 := Go.Lib.hid (show CL w (wi.setCell ⟨gD, i, none⟩ (.int .i64 (m + 1))) wo.heap.size gU gD t.length x A3 c3 (.slice A l.length c) l (Uf ((t.take (i + 1)).flatMap S27.f3) t.length) (dar t i (m + 1) t.length) by
              have h := hC.out.putD i (m + 1)
              rw [dar_set t i t.length m (m + 1) (by have := HI.out; omega)] at h
              exact h)
            have HDF := Go.Lib.hid (show dar t i (m + 1) t.length = dfn t (i + 1) t.length by rw [← HDN.out, dar_set t i t.length m (m + 1) (by have := HI.out; omega)])
            have HE := Go.Lib.hid (show nErr t i x = if kndB x i t.length = true then 3 else if okN t x = false then 3 else if 400 < m + 1 then 2 else if rngB x = true then 4 else 0 by
              rw [nErr, if_neg (by rw [hbk.out]; decide), HDEP.out])
            clear HDEP HDN HMD
            go_upto_region 20 with fail
            have hwq : ∃ wq : World, wq = wi.setCell ⟨gD, i, none⟩ (.int .i64 (m + 1)) := ⟨_, rfl⟩
            obtain ⟨n0, n2, n3, n1, n4, n5⟩ := hC1.out.cells
            go_cut [90] from 91 to 110 (fun s90 wx => s90 = .bool (kndB x i t.length) ∧ Hid (CL w wx wo.heap.size gU gD t.length x A3 c3 (.slice A l.length c) l (Uf ((t.take (i + 1)).flatMap S27.f3) t.length) (dar t i (m + 1) t.length)))
            case first => as_aux_lemma =>
              obtain ⟨b1, hb1⟩ : ∃ b, decide (x.f0 < 0) = b := ⟨_, rfl⟩
              obtain ⟨b2, hb2⟩ : ∃ b, decide (38 < x.f0) = b := ⟨_, rfl⟩
              obtain ⟨b3, hb3⟩ : ∃ b, decide (x.f0 = 0) = b := ⟨_, rfl⟩
              obtain ⟨b4, hb4⟩ : ∃ b, decide ((i : Int) < (t.length : Int) - 1) = b := ⟨_, rfl⟩
              have hb3' : (x.f0 == 0) = b3 := hb3
              have HKB := Go.Lib.hid (show kndB x i t.length = (b1 || b2 || (b3 && b4)) by
                have h4 : decide ((i : Int) = (t.length : Int) - 1) = !b4 := by
                  rw [← hb4, ← decide_not]
                  exact decide_eq_decide.2 (by omega)
                have h34 : b4 = false → b3 = true := fun e => by
                  rw [← hb3]
                  rw [← hb4, decide_eq_false_iff_not] at e
                  exact decide_eq_true (HKL.out (by have := HI.out; omega))
                unfold kndB
                rw [hb1, hb2, hb3, h4]
                exact kb4 b1 b2 b3 b4 h34)
              clear hb3
              cases b1
              rotate_left
              · go_wp2_with fail
                go_meet
                exact ⟨congrArg Value.bool HKB.out.symm, hC1⟩
              cases b2
              rotate_left
              · go_wp2_with fail
                go_meet
                exact ⟨congrArg Value.bool HKB.out.symm, hC1⟩
              cases b3
              all_goals
                go_wp2_with fail
                go_meet
                exact ⟨congrArg Value.bool HKB.out.symm, hC1⟩
            case rest =>
              clear hC hC1 n0 n1 n2 n3 n4 n5 d2 df hwq
              obtain ⟨rfl, hC⟩ := hcut
              obtain ⟨wk, hwk⟩ : ∃ wk : World, wk = wc := ⟨_, rfl⟩
              subst hwk
              have HKN := Go.Lib.hid (show kndB x i t.length = false → 0 ≤ x.f0 ∧ x.f0 ≤ 38 from fun h => by
                unfold kndB at h
                simp only [Bool.or_eq_false_iff, decide_eq_false_iff_not] at h
                omega)
              generalize kndB x i t.length = kb at *
              cases kb
              rotate_left
              · have HV3 := Go.Lib.hid (show rv = 3 from HRET.out 3 (by rw [HE.out, if_pos rfl]) (by decide))
                go_wp2_with fail
                go_ret
                exact ⟨by rw [HV3.out]; rfl, hC.out.below⟩
              have HE2 := Go.Lib.hid (show nErr t i x = if okN t x = false then 3 else if 400 < m + 1 then 2 else if rngB x = true then 4 else 0 by rw [HE.out, if_neg (by decide)])
              have HKR := Go.Lib.hid (HKN.out rfl)
              clear HE HKN
              obtain ⟨n0, n2, n3, n1, n4, n5⟩ := hC.out.cells
              go_upto_region 22 with fail
              go_cut [111] from 112 to 147 (fun s111 wx => s111 = .bool (!okN t x) ∧ Hid (CL w wx wo.heap.size gU gD t.length x A3 c3 (.slice A l.length c) l (Uf ((t.take (i + 1)).flatMap S27.f3) t.length) (dar t i (m + 1) t.length)))
              case first => as_aux_lemma =>
                have HOK := Go.Lib.hid (show okN t x = (shpB x.f0 l && !(x.f3.any (fldBad t x.f0)) && !impB x x.f3.length) by rw [okN, ← hl.out])
                have HFT := Go.Lib.hid (fits_calls x.f0 l A c wk HKR.out.1 HKR.out.2 hC.out.reads (by have := HLX.out; have := HLL.out; omega))
                have HBI := Go.Lib.hid (badK_in hbk.out)
                have HFE := Go.Lib.hid (show shpB x.f0 l = true → x.f3.any (pfB t x.f0) = x.f3.any (fldBad t x.f0) from fun h => fields_eq t x HKR.out.1 HKR.out.2 (by rw [← hl.out]; exact h) (fun k hk h19 => by
                  obtain ⟨kn, rfl⟩ : ∃ kn : Nat, k = kn := ⟨k.toNat, by have := (HBI.out k hk).1; omega⟩
                  have hki : kn < i := by have := (HBI.out _ hk).2; omega
                  exact (field_shape (nErr_zero (hz.out kn hki)).2.2.1 h19).2))
                have HFF := fun Wx (hbx : Below w.heap.size w Wx) => Go.Lib.hid (fieldsf_calls t x ad c0 c3 A3 Wx (Kd.C_below HR.out hbx) (Kd.C_below G3.out hbx) (fun k hk => by have := HBI.out k hk; have := HI.out; omega) (fun k hk h19 => by
                  obtain ⟨kn, rfl⟩ : ∃ kn : Nat, k = kn := ⟨k.toNat, by have := (HBI.out k hk).1; omega⟩
                  have hki : kn < i := by have := (HBI.out _ hk).2; omega
                  refine ⟨(field_shape (nErr_zero (hz.out kn hki)).2.2.1 h19).1, fun y hy => ?_⟩
                  have := badK_in (nErr_zero (hz.out kn hki)).1 y hy
                  have := HI.out
                  omega))
                generalize shpB x.f0 l = sb at *
                cases sb
                · have HOK2 := Go.Lib.hid (show (!okN t x) = true by rw [HOK.out]; rfl)
                  go_wp2_with fail
                  refine HFT.out.mono ?_
                  rintro e w4 ⟨rfl, hb4⟩
                  have hC4 := Go.Lib.hid (hC.out.lift hb4)
                  clear hb4 HFT
                  go_wp2_with fail
                  go_meet
                  exact ⟨congrArg Value.bool HOK2.out.symm, hC4⟩
                have HFE2 := Go.Lib.hid (HFE.out rfl)
                generalize x.f3.any (pfB t x.f0) = pb at HFF HFE2
                rw [← HFE2.out] at HOK
                clear HFE HFE2
                go_wp2_with fail
                refine HFT.out.mono ?_
                rintro e w4 ⟨rfl, hb4⟩
                have hC4 := Go.Lib.hid (hC.out.lift hb4)
                clear hb4 HFT n0 n1 n2 n3 n4 n5
                obtain ⟨n0, n2, n3, n1, n4, n5⟩ := hC4.out.cells
                have HF4 := HFF w4 hC4.out.below
                clear HFF
                go_wp2_with fail
                refine HF4.out.mono ?_
                rintro e w5 ⟨rfl, hb5⟩
                have hC5 := Go.Lib.hid (hC4.out.lift hb5)
                clear hb5 HF4 n0 n1 n2 n3 n4 n5 hC4
                obtain ⟨n0, n2, n3, n1, n4, n5⟩ := hC5.out.cells
                cases pb
                rotate_left
                · have HOK2 := Go.Lib.hid (show (!okN t x) = true by rw [HOK.out]; simp)
                  go_wp2_with fail
                  go_meet
                  exact ⟨congrArg Value.bool HOK2.out.symm, hC5⟩
                have HOK2 := Go.Lib.hid (show (!okN t x) = impB x x.f3.length by rw [HOK.out]; simp)
                rw [← HLL.out, imp_eq] at HOK2
                obtain ⟨b1, hb1⟩ : ∃ b, decide (x.f0 = 1) = b := ⟨_, rfl⟩
                obtain ⟨b2, hb2⟩ : ∃ b, decide (x.f2 < 0) = b := ⟨_, rfl⟩
                obtain ⟨b3, hb3⟩ : ∃ b, decide (1 < x.f2) = b := ⟨_, rfl⟩
                obtain ⟨b4, hb4⟩ : ∃ b, decide (x.f2 = 0) = b := ⟨_, rfl⟩
                obtain ⟨b5, hb5⟩ : ∃ b, decide (0 < l.length) = b := ⟨_, rfl⟩
                rw [hb1, hb2, hb3, hb4, hb5] at HOK2
                have hb1' : (x.f0 == 1) = b1 := hb1
                have hb4' : (x.f2 == 0) = b4 := hb4
                have hb5' : decide ((0 : Int) < (l.length : Int)) = b5 := by rw [← hb5]; exact decide_eq_decide.2 (by omega)
                clear hb1 hb4
                cases b1
                · go_wp2_with fail
                  go_meet
                  exact ⟨congrArg Value.bool HOK2.out.symm, hC5⟩
                cases b2
                rotate_left
                · go_wp2_with fail
                  go_meet
                  exact ⟨congrArg Value.bool HOK2.out.symm, hC5⟩
                cases b3
                rotate_left
                · go_wp2_with fail
                  go_meet
                  exact ⟨congrArg Value.bool HOK2.out.symm, hC5⟩
                cases b4
                all_goals
                  go_wp2_with fail
                  go_meet
                  exact ⟨congrArg Value.bool HOK2.out.symm, hC5⟩
              case rest =>
                clear hC n0 n1 n2 n3 n4 n5
                obtain ⟨rfl, hC⟩ := hcut
                obtain ⟨wl, hwl⟩ : ∃ wl : World, wl = wc := ⟨_, rfl⟩
                subst hwl
                generalize okN t x = ob at *
                cases ob
                · have HV3 := Go.Lib.hid (show rv = 3 from HRET.out 3 (by rw [HE2.out, if_pos rfl]) (by decide))
                  go_wp2_with fail
                  go_ret
                  exact ⟨by rw [HV3.out]; rfl, hC.out.below⟩
                have HE3 := Go.Lib.hid (show nErr t i x = if 400 < m + 1 then 2 else if rngB x = true then 4 else 0 by rw [HE2.out, if_neg (by decide)])
                have d2 := hC.out.id.cell i (dar_at t i t.length (m + 1) (by have := HI.out; omega))
                clear HE2
                by_cases h4 : 400 < m + 1
                · have hd4 : decide (400 < m + 1) = true := decide_eq_true h4
                  have HV3 := Go.Lib.hid (show rv = 2 from HRET.out 2 (by rw [HE3.out, if_pos h4]) (by decide))
                  clear h4
                  go_wp2_with fail
                  go_ret
                  exact ⟨by rw [HV3.out]; rfl, hC.out.below⟩
                have hd4 : decide (400 < m + 1) = false := decide_eq_false h4
                have HE4 := Go.Lib.hid (show nErr t i x = if rngB x = true then 4 else 0 by rw [HE3.out, if_neg h4])
                clear HE3 h4
                go_upto_region 26 with fail
                clear d2
                obtain ⟨n0, n2, n3, n1, n4, n5⟩ := hC.out.cells
                go_cut [154] from 155 to 187 (fun s154 wx => s154 = .bool (rngB x) ∧ Hid (CL w wx wo.heap.size gU gD t.length x A3 c3 (.slice A l.length c) l (Uf ((t.take (i + 1)).flatMap S27.f3) t.length) (dar t i (m + 1) t.length)))
                case first => as_aux_lemma =>
                  obtain ⟨a1, ha1⟩ : ∃ a, a = decide (x.f0 = 21) := ⟨_, rfl⟩
                  obtain ⟨a2, ha2⟩ : ∃ a, a = decide (x.f0 = 37) := ⟨_, rfl⟩
                  obtain ⟨a3, ha3⟩ : ∃ a, a = decide (x.f0 = 4) := ⟨_, rfl⟩
                  obtain ⟨e1, he1⟩ : ∃ a, a = decide (x.f2 < 0) := ⟨_, rfl⟩
                  obtain ⟨e2, he2⟩ : ∃ a, a = decide (1073741823 < x.f2) := ⟨_, rfl⟩
                  obtain ⟨e3, he3⟩ : ∃ a, a = decide (30 ≤ x.f2) := ⟨_, rfl⟩
                  have m1 : (x.f0 == 21) = a1 := by rw [ha1]; rfl
                  have m2 : (x.f0 == 37) = a2 := by rw [ha2]; rfl
                  have m3 : (x.f0 == 4) = a3 := by rw [ha3]; rfl
                  have m4 : decide (x.f2 < 0) = e1 := he1.symm
                  have m5 : decide (1073741823 < x.f2) = e2 := he2.symm
                  have m6 : decide (29 < x.f2) = e3 := by rw [he3]; exact decide_eq_decide.2 (by omega)
                  have HRG := Go.Lib.hid (show rngB x = ((a1 || a2) && (e1 || e2) || a3 && (e1 || e3)) by unfold rngB; rw [ha1, ha2, ha3, he1, he2, he3])
                  have H12 := Go.Lib.hid (show (a1 && a2) = false ∧ (a1 && a3) = false ∧ (a2 && a3) = false by
                    rw [ha1, ha2, ha3]; simp only [Bool.and_eq_false_iff, decide_eq_false_iff_not]; omega)
                  clear ha1 ha2 ha3 he1 he2 he3
                  cases a1
                  · cases a2
                    · cases a3
                      · go_wp2_with fail
                        go_meet
                        exact ⟨congrArg Value.bool HRG.out.symm, hC⟩
                      · clear m5 H12
                        cases e1
                        all_goals cases e3
                        all_goals
                          go_wp2_with fail
                          go_meet
                          exact ⟨congrArg Value.bool HRG.out.symm, hC⟩
                    · obtain rfl : a3 = false := by have h := H12.out; simp at h; exact h
                      clear m6 H12
                      cases e1
                      all_goals cases e2
                      all_goals
                        go_wp2_with fail
                        go_meet
                        exact ⟨congrArg Value.bool HRG.out.symm, hC⟩
                  · obtain rfl : a2 = false := by have h := H12.out; simp at h; exact h.1
                    obtain rfl : a3 = false := by have h := H12.out; simp at h; exact h
                    clear m6 H12
                    cases e1
                    all_goals cases e2
                    all_goals
                      go_wp2_with fail
                      go_meet
                      exact ⟨congrArg Value.bool HRG.out.symm, hC⟩
                case rest =>
                  clear hC n0 n1 n2 n3 n4 n5
                  obtain ⟨rfl, hC⟩ := hcut
                  generalize rngB x = rb at *
                  cases rb
                  rotate_left
                  · have HV3 := Go.Lib.hid (show rv = 4 from HRET.out 4 (by rw [HE4.out, if_pos rfl]) (by decide))
                    go_wp2_with fail
                    go_ret
                    exact ⟨by rw [HV3.out]; rfl, hC.out.below⟩
                  have HZ := Go.Lib.hid (show ndErr t i = 0 by rw [HNE.out, HE4.out, if_neg (by decide)])
                  have HZ2 := Go.Lib.hid (show ∀ k, k < i + 1 → ndErr t k = 0 from fun k hk => by
                    by_cases e : k = i
                    · rw [e]; exact HZ.out
                    · exact hz.out k (by omega))
                  have HF2 := Go.Lib.hid (show firstE (ndErr t) 0 t.length = firstE (ndErr t) (i + 1) (t.length - (i + 1)) by rw [HNX.out, if_pos HZ.out])
                  go_wp2_with fail
                  go_roundg (ga - 1)
                  case measure => have := hi.out; have := HI.out; omega
                  case rel => exact ⟨i + 1, Go.Lib.hid (by have := hi.out; have := HI.out; omega), by go_num, HZ2, HF2, Go.Lib.hid hC.out.iu, Go.Lib.hid (by rw [← HDF.out]; exact hC.out.id), Go.Lib.hid hC.out.below⟩
      · have hd : decide ((i : Int) < (t.length : Int)) = false := decide_eq_false (by omega)
        have hd2 : decide (i < t.length) = false := decide_eq_false hlt
        have hd3 : ¬ (i : Int) < (t.length : Int) := by omega
        have HV2 := Go.Lib.hid (show rv = if cntOk t = true then 0 else 3 by
          have h : firstE (ndErr t) 0 t.length = 0 := by rw [hf.out, show t.length - i = 0 by omega]; rfl
          rw [HV.out, if_pos h])
        have HUU := Go.Lib.hid (show IA wo gU (Uf (t.flatMap S27.f3) t.length) by have h := hU.out; rw [List.take_of_length_le (by omega)] at h; exact h)
        have hcut3 := cut_to (P := Try.prog) 25 3 .i64 Try.underlying25 (info_parts info3).choose_spec.1 (some ⟨gU, 0, none⟩) t.length t.length ((t.length : Int) - 1) (by omega) (by omega) (Nat.le_refl _)
        rw [show ((t.length : Int) - 1).toNat = t.length - 1 by omega] at hcut3
        clear hlt HV hf hz hU hD hi
        go_wp2_with fail
        go_loopg [195] (t.length - 1) (fun g_ v195 w' => ∃ k : Nat, Hid (k + g_ = t.length - 1) ∧ v195 = .int .i64 k ∧ Hid (∀ i, i < k → cnt t i = 1) ∧ w' = wo)
        case atStart => exact ⟨0, Go.Lib.hid (by omega), rfl, Go.Lib.hid (by omega), rfl⟩
        case round =>
          obtain ⟨k, hk, rfl, hone, rfl⟩ := hrel
          by_cases hlk : k < t.length - 1
          · have hlk' : (k : Int) < ((t.length - 1 : Nat) : Int) := by omega
            have u1 := HUU.out.cell k (Uf_at _ t.length k (by omega))
            have HLK := Go.Lib.hid hlk
            have HCN := Go.Lib.hid (show (t.flatMap S27.f3).count (k : Int) = cnt t k from rfl)
            generalize (t.flatMap S27.f3).count (k : Int) = cu at u1 HCN
            clear hlk
            by_cases hc1 : cu = 1
            · have g1 : ((cu : Int) != 1) = false := bne_eq_false_iff_eq.2 (by omega)
              have HZ := Go.Lib.hid (show ∀ i, i < k + 1 → cnt t i = 1 from fun i hi => by
                by_cases e : i = k
                · rw [e, ← HCN.out, hc1]
                · exact hone.out i (by omega))
              clear hc1
              go_wp2_with fail
              go_roundg (gk - 1)
              case measure => have := hk.out; have := HLK.out; omega
              case rel => exact ⟨k + 1, Go.Lib.hid (by have := hk.out; have := HLK.out; omega), by go_num, HZ, rfl⟩
            · have g1 : ((cu : Int) != 1) = true := bne_iff_ne.2 (by omega)
              have HV3 := Go.Lib.hid (show rv = 3 by
                rw [HV2.out, if_neg]
                intro h
                unfold cntOk at h
                have h2 := List.all_eq_true.1 h k (List.mem_range.2 HLK.out)
                exact hc1 (by rw [HCN.out]; exact of_decide_eq_true h2))
              clear hc1
              go_wp2_with fail
              go_ret
              exact ⟨by rw [HV3.out]; rfl, hb.out⟩
          · have hd : decide ((k : Int) < ((t.length - 1 : Nat) : Int)) = false := decide_eq_false (by omega)
            have hd2 : decide (k < t.length - 1) = false := decide_eq_false hlk
            have hd3 : ¬ (k : Int) < ((t.length - 1 : Nat) : Int) := by omega
            have HV3 := Go.Lib.hid (show rv = 0 by
              rw [HV2.out, if_pos]
              unfold cntOk
              refine List.all_eq_true.2 (fun i hi => ?_)
              exact decide_eq_true (hone.out i (by have := List.mem_range.1 hi; omega)))
            clear hlk
            go_wp2_with fail
            go_ret
            exact ⟨by rw [HV3.out]; rfl, hb.out⟩
end Go.Proofs.Ytemdfhaceddmpaa.Tr
