import Derived.Test.YtemdfhaceddmpaaTn
namespace Go.Proofs.Ytemdfhaceddmpaa.Tr
open Go.Shelf Go.RowKit Go.Proofs.Ytemdfhaceddmpaa.PPrinterTells Go.Proofs.YtemdfhaceddmpaaW.PrintWords Go.Proofs.YtemdfhaceddmpaaW.PrintLast Go.Proofs.YtemdfhaceddmpaaW.PrintMore
set_option linter.unusedVariables false
set_option linter.unusedSimpArgs false

noncomputable def ndErr (t : List S27) (k : Nat) : Int := nErr t k (rd_T27 t (k : Int))
noncomputable def firstE (f : Nat → Int) : Nat → Nat → Int
  | _, 0 => 0
  | j, n + 1 => if f j = 0 then firstE f (j + 1) n else f j
/-- How often a node is a kid. -/
def cnt (t : List S27) (k : Nat) : Nat := (t.flatMap S27.f3).count (k : Int)
def cntOk (t : List S27) : Bool := (List.range (t.length - 1)).all fun k => decide (cnt t k = 1)
/-- The error of a tree. -/
noncomputable def treeErr (t : List S27) : Int :=
  if 4096 < t.length then 2 else if t.length = 0 then 3 else if kd t ((t.length : Int) - 1) = 0 then (if firstE (ndErr t) 0 t.length = 0 then (if cntOk t = true then 0 else 3) else firstE (ndErr t) 0 t.length) else 3

theorem nErr_zero {t : List S27} {i : Nat} {n : S27} (h : nErr t i n = 0) : badK i n.f3 = false ∧ kndB n i t.length = false ∧ okN t n = true ∧ ¬ 400 < rd (deps (t.take (i + 1))) i ∧ rngB n = false := by
  unfold nErr at h
  split at h
  · exact absurd h (by decide)
  rename_i h1
  split at h
  · exact absurd h (by decide)
  rename_i h2
  split at h
  · exact absurd h (by decide)
  rename_i h3
  split at h
  · exact absurd h (by decide)
  rename_i h4
  split at h
  · exact absurd h (by decide)
  rename_i h5
  exact ⟨by simpa using h1, by simpa using h2, by simpa using h3, h4, by simpa using h5⟩
theorem badK_in {i : Nat} {ks : List Int} (h : badK i ks = false) : ∀ x ∈ ks, 0 ≤ x ∧ x < (i : Int) := by
  intro x hx
  unfold badK at h
  have h2 := List.any_eq_false.1 h _ hx
  simp at h2
  omega
theorem okN_field {t : List S27} {n : S27} (h : okN t n = true) (hk : n.f0 = 19) : n.f3 ≠ [] := by
  intro e
  unfold okN shpB at h
  rw [if_neg (by omega), (text_ok n.f0).2.2.2 hk, e] at h
  simp [fit, hdB] at h
theorem cnt_step (t : List S27) (a : Nat) (h : a < t.length) (k : Int) : ((t.take (a + 1)).flatMap S27.f3).count k = ((t.take a).flatMap S27.f3).count k + (t[a]).f3.count k := by
  rw [List.take_succ_eq_append_getElem h, List.flatMap_append, List.count_append]
  simp
theorem count_step (l : List Int) (b : Nat) (h : b < l.length) (k : Int) : (l.take (b + 1)).count k = (l.take b).count k + (if l[b] = k then 1 else 0) := by
  rw [List.take_succ_eq_append_getElem h, List.count_append, List.count_singleton]
  simp
theorem addb {a u v z : Nat} (ih : u ≤ a * 17592186044416) (h1 : z * 8 ≤ 140737488351232) (h2 : v ≤ z) : u + v ≤ (a + 1) * 17592186044416 := by omega
theorem cnt_bound (t : List S27) (hl : ∀ x ∈ t, x.f3.length * 8 ≤ 140737488351232) (a : Nat) (k : Int) : ((t.take a).flatMap S27.f3).count k ≤ a * 17592186044416 := by
  induction a with
  | zero => simp
  | succ a ih =>
    by_cases h : a < t.length
    · rw [cnt_step t a h]
      have h1 := hl _ (List.getElem_mem h)
      have h2 := List.count_le_length (l := (t[a]).f3) (a := k)
      generalize ((t.take a).flatMap S27.f3).count k = u at *
      generalize (t[a]).f3.count k = v at *
      generalize (t[a]).f3.length = z at *
      exact addb ih h1 h2
    · have e1 : t.take (a + 1) = t.take a := by rw [List.take_of_length_le (i := a + 1) (by omega), List.take_of_length_le (i := a) (by omega)]
      rw [e1]
      generalize ((t.take a).flatMap S27.f3).count k = u at *
      exact Nat.le_trans ih (Nat.mul_le_mul_right _ (Nat.le_succ a))
set_option maxHeartbeats 4000000 in
set_option maxRecDepth 100000 in
theorem tree_calls (t : List S27) (A0 : Option Addr) (c0 : Nat) (w : World) (hr : Kd.C k27 w A0 t.length t) (hc : t.length ≤ c0) (hl : ∀ x ∈ t, x.f3.length * 8 ≤ 140737488351232) :
    Calls Try.prog 6 #[.slice A0 t.length c0] w fun e w' => e = .returned (.int .i64 (treeErr t)) ∧ Below w.heap.size w w' := by
  obtain ⟨rv, hrv⟩ : ∃ rv : Int, rv = treeErr t := ⟨_, rfl⟩
  have HRV := Go.Lib.hid hrv
  rw [← hrv]
  clear hrv
  have htm : t.length ≤ 9223372036854775807 := hr.2.1
  by_cases hbig : 4096 < t.length
  · have d1 : decide (4096 < t.length) = true := decide_eq_true hbig
    have d2 : decide ((4096 : Int) < (t.length : Int)) = true := decide_eq_true (by omega)
    have HV := Go.Lib.hid (show rv = 2 by rw [HRV.out, treeErr, if_pos hbig])
    clear hr hl hbig
    go_enter Try.func6, Try.ntmps6
    go_wp2_with fail
    go_ret
    exact ⟨by rw [HV.out]; rfl, Below.refl _ _⟩
  have d1 : decide (4096 < t.length) = false := decide_eq_false hbig
  have d2 : decide ((4096 : Int) < (t.length : Int)) = false := decide_eq_false (by omega)
  by_cases h0 : t.length = 0
  · have e1 : ((t.length : Int) == 0) = true := beq_iff_eq.2 (by omega)
    have e2 : (t.length == 0) = true := beq_iff_eq.2 h0
    have HV := Go.Lib.hid (show rv = 3 by rw [HRV.out, treeErr, if_neg hbig, if_pos h0])
    clear hr hl hbig h0
    go_enter Try.func6, Try.ntmps6
    go_wp2_with fail
    go_ret
    exact ⟨by rw [HV.out]; rfl, Below.refl _ _⟩
  have e1 : ((t.length : Int) == 0) = false := beq_eq_false_iff_ne.2 (by omega)
  have e2 : (t.length == 0) = false := beq_eq_false_iff_ne.2 h0
  have ht9 : (t.length : Int) ≤ 4096 := by omega
  have ht1 : (1 : Int) ≤ (t.length : Int) := by omega
  have hlt1 : (t.length : Int) - 1 < (t.length : Int) := by omega
  obtain ⟨ad, _, _, rfl, p0, -, -, -, -, -, -, -⟩ := at_T27 hr ((t.length : Int) - 1) (by omega) hlt1
  have HR := Go.Lib.hid hr
  have HL := Go.Lib.hid hl
  have HT := Go.Lib.hid (show t.length ≤ 4096 by omega)
  have HE := Go.Lib.hid (show treeErr t = if kd t ((t.length : Int) - 1) = 0 then (if firstE (ndErr t) 0 t.length = 0 then (if cntOk t = true then 0 else 3) else firstE (ndErr t) 0 t.length) else 3 by rw [treeErr, if_neg hbig, if_neg h0])
  have HKD := Go.Lib.hid (show kd t ((t.length : Int) - 1) = (rd_T27 t ((t.length : Int) - 1)).f0 from rfl)
  generalize (rd_T27 t ((t.length : Int) - 1)).f0 = kl at p0 HKD
  have hn : ((t.length : Int) - 1).toNat = t.length - 1 := by omega
  rw [hn] at p0
  clear hr hl hbig h0
  by_cases hkl : kl = 0
  rotate_left
  · have f1 : (kl != 0) = true := bne_iff_ne.2 hkl
    have HV := Go.Lib.hid (show rv = 3 by rw [HRV.out, HE.out, HKD.out, if_neg hkl])
    clear hkl
    go_enter Try.func6, Try.ntmps6
    go_wp2_with fail
    go_ret
    exact ⟨by rw [HV.out]; rfl, Below.refl _ _⟩
  have f1 : (kl != 0) = false := bne_eq_false_iff_eq.2 hkl
  have HV := Go.Lib.hid (show rv = if firstE (ndErr t) 0 t.length = 0 then (if cntOk t = true then 0 else 3) else firstE (ndErr t) 0 t.length by rw [HRV.out, HE.out, HKD.out, if_pos hkl])
  clear hkl HRV HE HKD
  obtain ⟨i27, hi27⟩ : ∃ i, Try.prog.info? 27 = some i := Option.isSome_iff_exists.1 (by kernel_rfl)
  have hcut := cut_to (P := Try.prog) 22 27 .i64 Try.underlying22 hi27 (some ad) t.length c0 ((t.length : Int) - 1) (by omega) (by omega) hc
  rw [hn] at hcut
  have hn9 : ((t.length - 1 : Nat) : Int) ≤ 4096 := by omega
  clear hn hi27
  go_enter Try.func6, Try.ntmps6
  go_wp2_with fail
  go_loopg [29] t.length (fun g_ v29 w' => ∃ j : Nat, Hid (j + g_ = t.length) ∧ v29 = .int .i64 j ∧ Hid (∀ k, k < j → ndErr t k = 0) ∧ Hid (firstE (ndErr t) 0 t.length = firstE (ndErr t) j (t.length - j)) ∧ Hid (Below w.heap.size w w'))
  case atStart => exact ⟨0, Go.Lib.hid (by omega), rfl, Go.Lib.hid (by omega), Go.Lib.hid (by rw [Nat.sub_zero]), Go.Lib.hid (Below.refl _ _)⟩
  case round =>
    obtain ⟨j, hj, rfl, hz, hf, hb⟩ := hrel
    obtain ⟨wo, hwo⟩ : ∃ wo : World, wo = wr := ⟨_, rfl⟩
    subst hwo
    clear p0 f1
    by_cases hlt : j < t.length
    · have hlt' : (j : Int) < (t.length : Int) := by omega
      have HLT := Go.Lib.hid hlt
      have HN0 := (node_calls t j (some ad) c0 wo (Kd.C_below HR.out hb.out) hlt HT.out (fun k h hk => by
          have h1 := badK_in (nErr_zero (hz.out k hk)).1
          rw [rdT_nat t k h] at h1
          exact h1) (fun k h hk h19 => by
          have h1 := (nErr_zero (hz.out k hk)).2.2.1
          rw [rdT_nat t k h] at h1
          exact okN_field h1 h19) HL.out)
      have HN := Go.Lib.hid (show Calls Try.prog 11 #[.slice (some ad) t.length c0, .int .i64 (j : Int)] wo (fun e w' => e = .returned (.int .i64 (ndErr t j)) ∧ Below wo.heap.size wo w') by
        have h := HN0
        unfold ndErr
        rw [rdT_nat t j hlt]
        exact h)
      have HF := Go.Lib.hid (show firstE (ndErr t) 0 t.length = if ndErr t j = 0 then firstE (ndErr t) (j + 1) (t.length - (j + 1)) else ndErr t j by
        rw [hf.out, show t.length - j = (t.length - (j + 1)) + 1 by omega]; rfl)
      have HZ := Go.Lib.hid (show ndErr t j = 0 → ∀ k, k < j + 1 → ndErr t k = 0 from fun h k hk => by
        by_cases e : k = j
        · rw [e]; exact h
        · exact hz.out k (by omega))
      clear HN0 hlt
      generalize ndErr t j = er at HN HF HZ
      go_wp2_with fail
      refine HN.out.mono ?_
      rintro e w1 ⟨rfl, hb1⟩
      have HB := Go.Lib.hid (below_step hb.out hb1)
      clear hb1 HN
      by_cases her : er = 0
      · have g1 : (er != 0) = false := bne_eq_false_iff_eq.2 her
        have HZ2 := Go.Lib.hid (HZ.out her)
        have HF2 := Go.Lib.hid (show firstE (ndErr t) 0 t.length = firstE (ndErr t) (j + 1) (t.length - (j + 1)) by rw [HF.out, if_pos her])
        clear her HZ HF
        go_wp2_with fail
        go_roundg (gk - 1)
        case measure => have := hj.out; have := HLT.out; omega
        case rel => exact ⟨j + 1, Go.Lib.hid (by have := hj.out; have := HLT.out; omega), by go_num, HZ2, HF2, HB⟩
      · have g1 : (er != 0) = true := bne_iff_ne.2 her
        have HV2 := Go.Lib.hid (show rv = er by
          have h : firstE (ndErr t) 0 t.length = er := by rw [HF.out, if_neg her]
          rw [HV.out, h, if_neg her])
        clear her HZ HF
        go_wp2_with fail
        go_ret
        exact ⟨by rw [HV2.out]; rfl, HB.out⟩
    · have hd : decide ((j : Int) < (t.length : Int)) = false := decide_eq_false (by omega)
      have hd2 : decide (j < t.length) = false := decide_eq_false hlt
      have hd3 : ¬ (j : Int) < (t.length : Int) := by omega
      have HV2 := Go.Lib.hid (show rv = if cntOk t = true then 0 else 3 by
        have h : firstE (ndErr t) 0 t.length = 0 := by rw [hf.out, show t.length - j = 0 by omega]; rfl
        rw [HV.out, if_pos h])
      clear hlt HV hf hz
      go_wp2_with fail
      have HTL := Go.Lib.hid (show t.length - 1 < t.length by omega)
      clear hj
      go_loopg [45] (t.length - 1) (fun g_ v45 w' => ∃ k : Nat, Hid (k + g_ = t.length - 1) ∧ v45 = .int .i64 k ∧ Hid (∀ i, i < k → cnt t i = 1) ∧ Hid (Below w.heap.size w w'))
      case atStart => exact ⟨0, Go.Lib.hid (by omega), rfl, Go.Lib.hid (by omega), hb⟩
      case round =>
        clear hb
        obtain ⟨k, hg, rfl, hz, hb⟩ := hrel
        obtain ⟨wk, hwk⟩ : ∃ wk : World, wk = wr := ⟨_, rfl⟩
        subst hwk
        obtain ⟨gb, hgb⟩ : ∃ gb : Nat, gb = gk := ⟨_, rfl⟩
        subst hgb
        by_cases hlt : k < t.length - 1
        · have hlt' : (k : Int) < ((t.length - 1 : Nat) : Int) := by omega
          have HLK := Go.Lib.hid hlt
          clear hlt
          go_wp2_with fail
          go_loopg [6, 50] t.length (fun g_ v6 v50 w' => ∃ a c : Nat, Hid (a + g_ = t.length) ∧ v50 = .int .i64 a ∧ v6 = .int .i64 c ∧ Hid (c = ((t.take a).flatMap S27.f3).count (k : Int)) ∧ Hid (Below w.heap.size w w'))
          case atStart => exact ⟨0, 0, Go.Lib.hid (by omega), rfl, rfl, Go.Lib.hid (by simp), hb⟩
          case round =>
            clear hb
            obtain ⟨a, c, hga, rfl, rfl, hcn, hb⟩ := hrel
            obtain ⟨wa, hwa⟩ : ∃ wa : World, wa = wr := ⟨_, rfl⟩
            subst hwa
            obtain ⟨ga, hgaa⟩ : ∃ ga : Nat, ga = gk := ⟨_, rfl⟩
            subst hgaa
            by_cases hla : a < t.length
            · have hla' : (a : Int) < (t.length : Int) := by omega
              have ha0 : (0 : Int) ≤ (a : Int) := by omega
              obtain ⟨ad2, A3, c3, e_, p0, p1, p2, p3, p4, p5, l3, g3⟩ := at_T27 HR.out (a : Int) ha0 hla'
              cases e_
              rw [rdT_nat t a hla] at p0 p1 p2 p3 p4 p5 l3 g3
              rw [Int.toNat_natCast] at p0 p1 p2 p3 p4 p5
              replace p0 := pw_cell_below hb.out p0
              replace p1 := pw_cell_below hb.out p1
              replace p2 := pw_cell_below hb.out p2
              replace p3 := pw_cell_below hb.out p3
              replace p4 := pw_cell_below hb.out p4
              replace p5 := pw_cell_below hb.out p5
              have HST := Go.Lib.hid (cnt_step t a hla (k : Int))
              have HLX := Go.Lib.hid (HL.out _ (List.getElem_mem hla))
              have HCB := Go.Lib.hid (show c ≤ a * 17592186044416 by rw [hcn.out]; exact cnt_bound t HL.out a (k : Int))
              have HLA := Go.Lib.hid hla
              generalize t[a] = x at p0 p1 p2 p3 p4 p5 l3 g3 HST HLX
              have G3 := Go.Lib.hid g3
              have hxl : (x.f3.length : Int) ≤ 9223372036854775807 := by have := G3.out.2.1; omega
              have HB2 := fun o => Go.Lib.hid (below_alloc hb.out o)
              clear g3 l3 hla
              go_wp2_with fail
              go_loopg [6, 57] x.f3.length (fun g_ v6 v57 w' => ∃ b d : Nat, Hid (b + g_ = x.f3.length) ∧ v57 = .int .i64 b ∧ v6 = .int .i64 d ∧ Hid (d = c + (x.f3.take b).count (k : Int)) ∧ Hid (Below w.heap.size w w'))
              case atStart => exact ⟨0, c, Go.Lib.hid (by omega), rfl, rfl, Go.Lib.hid (by simp), HB2 _⟩
              case round =>
                clear hb p0 p1 p2 p3 p4 p5 HB2
                obtain ⟨b, d, hgb2, rfl, rfl, hdn, hb⟩ := hrel
                obtain ⟨wb, hwb⟩ : ∃ wb : World, wb = wr := ⟨_, rfl⟩
                subst hwb
                by_cases hlb : b < x.f3.length
                · have hlb' : (b : Int) < (x.f3.length : Int) := by omega
                  have hb0 : (0 : Int) ≤ (b : Int) := by omega
                  obtain ⟨adl, rfl, q0⟩ := Kd.at_int (Kd.C_below G3.out hb.out) (b : Int) hb0 hlb'
                  rw [rd_nat _ b hlb, Int.toNat_natCast] at q0
                  have HCS := Go.Lib.hid (count_step x.f3 b hlb (k : Int))
                  have HDB := Go.Lib.hid (show d < 4611686018427387904 by
                    have h1 := List.count_le_length (l := x.f3.take b) (a := (k : Int))
                    rw [List.length_take] at h1
                    have := hdn.out; have := HCB.out; have := HLX.out; have := HT.out; have := HLA.out
                    omega)
                  have hd9 : (d : Int) < 4611686018427387904 := by have := HDB.out; omega
                  have HLB := Go.Lib.hid hlb
                  generalize x.f3[b] = y at q0 HCS
                  clear hlb
                  by_cases hy : y = (k : Int)
                  · have g1 : (y == (k : Int)) = true := beq_iff_eq.2 hy
                    have HDN := Go.Lib.hid (show d + 1 = c + (x.f3.take (b + 1)).count (k : Int) by rw [HCS.out, hdn.out, if_pos hy]; omega)
                    clear hy
                    go_wp2_with fail
                    go_roundg (gk - 1)
                    case measure => have := hgb2.out; have := HLB.out; omega
                    case rel => exact ⟨b + 1, d + 1, Go.Lib.hid (by have := hgb2.out; have := HLB.out; omega), by go_num, by go_num, HDN, hb⟩
                  · have g1 : (y == (k : Int)) = false := beq_eq_false_iff_ne.2 hy
                    have HDN := Go.Lib.hid (show d = c + (x.f3.take (b + 1)).count (k : Int) by rw [HCS.out, hdn.out, if_neg hy]; omega)
                    clear hy
                    go_wp2_with fail
                    go_roundg (gk - 1)
                    case measure => have := hgb2.out; have := HLB.out; omega
                    case rel => exact ⟨b + 1, d, Go.Lib.hid (by have := hgb2.out; have := HLB.out; omega), by go_num, rfl, HDN, hb⟩
                · have hd : decide ((b : Int) < (x.f3.length : Int)) = false := decide_eq_false (by omega)
                  have hd2 : decide (b < x.f3.length) = false := decide_eq_false hlb
                  have hd3 : ¬ (b : Int) < (x.f3.length : Int) := by omega
                  have HCN := Go.Lib.hid (show d = ((t.take (a + 1)).flatMap S27.f3).count (k : Int) by rw [HST.out, hdn.out, hcn.out, List.take_of_length_le (l := x.f3) (by omega)])
                  clear hlb
                  go_wp2_with fail
                  go_roundg (ga - 1)
                  case measure => have := hga.out; have := HLA.out; omega
                  case rel => exact ⟨a + 1, d, Go.Lib.hid (by have := hga.out; have := HLA.out; omega), by go_num, rfl, HCN, hb⟩
            · have hd : decide ((a : Int) < (t.length : Int)) = false := decide_eq_false (by omega)
              have hd2 : decide (a < t.length) = false := decide_eq_false hla
              have hd3 : ¬ (a : Int) < (t.length : Int) := by omega
              have HCN := Go.Lib.hid (show c = cnt t k by rw [hcn.out, List.take_of_length_le (by omega)]; rfl)
              clear hla
              by_cases hc1 : c = 1
              · have g1 : ((c : Int) != 1) = false := bne_eq_false_iff_eq.2 (by omega)
                have HZ := Go.Lib.hid (show ∀ i, i < k + 1 → cnt t i = 1 from fun i hi => by
                  by_cases e : i = k
                  · rw [e, ← HCN.out, hc1]
                  · exact hz.out i (by omega))
                have HC1 := Go.Lib.hid hc1
                clear hc1
                go_wp2_with fail
                go_roundg (gb - 1)
                case measure => have := hg.out; have := HLK.out; omega
                case rel => exact ⟨k + 1, Go.Lib.hid (by have := hg.out; have := HLK.out; omega), by go_num, HZ, hb⟩
              · have g1 : ((c : Int) != 1) = true := bne_iff_ne.2 (by omega)
                have HV3 := Go.Lib.hid (show rv = 3 by
                  rw [HV2.out, if_neg]
                  intro h
                  unfold cntOk at h
                  have h2 := List.all_eq_true.1 h k (List.mem_range.2 HLK.out)
                  exact hc1 (by rw [HCN.out]; exact of_decide_eq_true h2))
                clear hc1
                go_wp2_with fail
                go_ret
                exact ⟨by rw [HV3.out]; rfl, hb.out⟩
        · have hd : decide ((k : Int) < ((t.length - 1 : Nat) : Int)) = false := decide_eq_false (by omega)
          have hd2 : decide (k < t.length - 1) = false := decide_eq_false hlt
          have hd3 : ¬ (k : Int) < ((t.length - 1 : Nat) : Int) := by omega
          have HV3 := Go.Lib.hid (show rv = 0 by
            rw [HV2.out, if_pos]
            unfold cntOk
            refine List.all_eq_true.2 (fun i hi => ?_)
            exact decide_eq_true (hz.out i (by have := List.mem_range.1 hi; omega)))
          clear hlt
          go_wp2_with fail
          go_ret
          exact ⟨by rw [HV3.out]; rfl, hb.out⟩
end Go.Proofs.Ytemdfhaceddmpaa.Tr
