import Derived.Test.YtemdfhaceddmpaaTj
import Derived.Test.YtemdfhaceddmpaaTl
import Derived.Deep.DeepCutAuto
import Derived.Deep.CutRange
namespace Go.Proofs.Ytemdfhaceddmpaa.Tr
open Go.Shelf Go.RowKit Go.Proofs.Ytemdfhaceddmpaa.PPrinterTells Go.Proofs.YtemdfhaceddmpaaW.PrintWords Go.Proofs.YtemdfhaceddmpaaW.PrintLast Go.Proofs.YtemdfhaceddmpaaW.PrintMore
set_option linter.unusedVariables false
set_option linter.unusedSimpArgs false

def kd (t : List S27) (k : Int) : Int := (rd_T27 t k).f0
def badK (i : Nat) (ks : List Int) : Bool := ks.any fun k => decide (k < 0) || decide ((i : Int) ≤ k)
def altAt (k : Nat) (x : Int) : Bool := if k % 2 = 1 then decide (x = 3) else decide (x ∈ kinds 69)
def altP (l : List Int) : Bool := l.zipIdx.all fun p => altAt p.2 p.1
def fldBad (t : List S27) (nk : Int) (k : Int) : Bool :=
  decide (kd t k = 19) && ((decide (nk = 17) && !decide (kd t (rd (rd_T27 t k).f3 0) ∈ kinds 84)) || (decide (nk = 29) && !decide (kd t (rd (rd_T27 t k).f3 0) ∈ kinds 69)))
def impB (n : S27) (m : Nat) : Bool := decide (n.f0 = 1) && ((!decide (n.f2 = 1) && !decide (n.f2 = 0)) || (decide (n.f2 = 0) && decide (0 < m)))
def rngB (n : S27) : Bool := ((decide (n.f0 = 21) || decide (n.f0 = 37)) && (decide (n.f2 < 0) || decide (1073741823 < n.f2))) || (decide (n.f0 = 4) && (decide (n.f2 < 0) || decide (30 ≤ n.f2)))
def kndB (n : S27) (i m : Nat) : Bool := decide (n.f0 < 0) || decide (38 < n.f0) || (decide (n.f0 = 0) != decide ((i : Int) = (m : Int) - 1))
noncomputable def shpB (k : Int) (l : List Int) : Bool := if k = 24 then decide (2 < l.length) && decide (l.length % 2 = 1) && altP l else fit (l.length + 20) (itemsOf k) l
noncomputable def okN (t : List S27) (n : S27) : Bool := shpB n.f0 (n.f3.map (kd t)) && !(n.f3.any (fldBad t n.f0)) && !impB n n.f3.length
/-- The error of a node. -/
noncomputable def nErr (t : List S27) (i : Nat) (n : S27) : Int :=
  if badK i n.f3 = true then 3 else if kndB n i t.length = true then 3 else if okN t n = false then 3 else if 400 < rd (deps (t.take (i + 1))) i then 2 else if rngB n = true then 4 else 0

theorem badK_snoc (i : Nat) (ks : List Int) (x : Int) : badK i (ks ++ [x]) = (badK i ks || (decide (x < 0) || decide ((i : Int) ≤ x))) := by simp [badK]
theorem badK_of_take {i : Nat} {ks : List Int} {j : Nat} (h : badK i (ks.take j) = true) : badK i ks = true := by
  unfold badK at h ⊢
  rw [List.any_eq_true] at h ⊢
  obtain ⟨x, hx, h⟩ := h
  exact ⟨x, List.mem_of_mem_take hx, h⟩
theorem altP_snoc (l : List Int) (x : Int) : altP (l ++ [x]) = (altP l && altAt l.length x) := by
  unfold altP
  rw [List.zipIdx_append]
  simp

/-- What stands while a node is looked at. -/
structure NL (w W : World) (x : S27) (A3 : Option Addr) (c3 : Nat) (v : Value) (l : List Int) : Prop where
  box : W.heap[w.heap.size]? = some (.cells #[.int .i64 x.f0, .string x.f1, .int .i64 x.f2, .slice A3 x.f3.length c3, .int .i64 x.f4, .int .i64 x.f5] 27 (0, 0))
  below : Below w.heap.size w W
  own : W.ownsRow w.heap.size 3 1 v l.length (nums .i64 l)
theorem NL.lift {w W W' : World} {x : S27} {A3 : Option Addr} {c3 : Nat} {v : Value} {l : List Int} (h : NL w W x A3 c3 v l) (hb : Below W.heap.size W W') : NL w W' x A3 c3 v l :=
  ⟨blk_below h.box hb, below_step h.below hb, pw_own_below h.own hb⟩
theorem NL.app {w W W' : World} {x : S27} {A3 : Option Addr} {c3 : Nat} {v v1 : Value} {l l1 : List Int} (h : NL w W x A3 c3 v l) (ho : W'.ownsRow w.heap.size 3 1 v1 l1.length (nums .i64 l1)) (hb : Below w.heap.size w W') (hg : W.grownBy W' v.ownBlock) : NL w W' x A3 c3 v1 l1 :=
  ⟨blk_grown h.box hg (own_ne h.own h.box (by decide)), hb, ho⟩
theorem NL.cells {w W : World} {x : S27} {A3 : Option Addr} {c3 : Nat} {v : Value} {l : List Int} (h : NL w W x A3 c3 v l) :
    W.cell? ⟨w.heap.size, 0, none⟩ = some (.int .i64 x.f0) ∧ W.cell? ⟨w.heap.size, 2, none⟩ = some (.int .i64 x.f2) ∧ W.cell? ⟨w.heap.size, 3, none⟩ = some (.slice A3 x.f3.length c3) :=
  ⟨(blk_cell h.box 0).trans rfl, (blk_cell h.box 2).trans rfl, (blk_cell h.box 3).trans rfl⟩
theorem NL.reads {w W : World} {x : S27} {A3 A : Option Addr} {c3 c : Nat} {l : List Int} (h : NL w W x A3 c3 (.slice A l.length c) l) : Kd.C (Kd.int .i64) W A l.length l :=
  Kd.C_of_reads (d := 0) (h1 := fun _ => rfl) (readsInt_of.1 (own_reads' h.own))

set_option maxHeartbeats 8000000 in
set_option maxRecDepth 100000 in
theorem node_calls (t : List S27) (i : Nat) (A0 : Option Addr) (c0 : Nat) (w : World) (hr : Kd.C k27 w A0 t.length t) (hi : i < t.length) (ht : t.length ≤ 4096) (hk : ∀ k, (h : k < t.length) → k < i → ∀ x ∈ (t[k]).f3, 0 ≤ x ∧ x < (k : Int))
    (hf : ∀ k, (h : k < t.length) → k < i → (t[k]).f0 = 19 → (t[k]).f3 ≠ []) (hl : ∀ x ∈ t, x.f3.length * 8 ≤ 140737488351232) :
    Calls Try.prog 11 #[.slice A0 t.length c0, .int .i64 (i : Int)] w fun e w' => e = .returned (.int .i64 (nErr t i t[i])) ∧ Below w.heap.size w w' := by
  obtain ⟨rv, hrv⟩ : ∃ rv : Int, rv = nErr t i t[i] := ⟨_, rfl⟩
  have HRV := Go.Lib.hid hrv
  rw [← hrv]
  clear hrv
  have HR := Go.Lib.hid hr
  have HK := Go.Lib.hid hk
  have HF := Go.Lib.hid hf
  have HL := Go.Lib.hid (hl _ (List.getElem_mem hi))
  have HT := Go.Lib.hid ht
  have HI := Go.Lib.hid hi
  have hi9 : (i : Int) < 5000 := by omega
  have hi0 : (0 : Int) ≤ (i : Int) := by omega
  have hit : (i : Int) < (t.length : Int) := by omega
  obtain ⟨ad, A3, c3, rfl, p0, p1, p2, p3, p4, p5, l3, g3⟩ := at_T27 hr (i : Int) hi0 hit
  rw [rdT_nat t i hi] at p0 p1 p2 p3 p4 p5 l3 g3
  rw [Int.toNat_natCast] at p0 p1 p2 p3 p4 p5
  have HXX := Go.Lib.hid (rdT_nat t i hi)
  generalize t[i] = x at p0 p1 p2 p3 p4 p5 l3 g3 HL HRV HXX
  have G3 := Go.Lib.hid g3
  have L3 := Go.Lib.hid l3
  have hxl : (x.f3.length : Int) ≤ 9223372036854775807 := by have := G3.out.2.1; omega
  have ht9 : (t.length : Int) ≤ 4096 := by omega
  clear hr hk hf hl ht hi l3 g3
  go_enter Try.func11, Try.ntmps11
  go_wp2_with fail
  go_loopg [6, 21] x.f3.length (fun g_ v6 v21 w' => ∃ (j : Nat) (l : List Int) (A : Option Addr) (c : Nat), Hid (j + g_ = x.f3.length) ∧ v21 = .int .i64 j ∧ v6 = .slice A l.length c ∧ Hid (l = (x.f3.take j).map (kd t)) ∧ Hid (badK i (x.f3.take j) = false) ∧ Hid (NL w w' x A3 c3 (.slice A l.length c) l))
  case atStart => exact ⟨0, [], none, 0, Go.Lib.hid (by omega), rfl, rfl, Go.Lib.hid rfl, Go.Lib.hid rfl, Go.Lib.hid ⟨blk_new _ _, below_alloc (Below.refl _ _) _, own_nil _ _ _ _⟩⟩
  case round =>
    obtain ⟨j, l, A, c, hj, rfl, rfl, hl, hbk, hN⟩ := hrel
    obtain ⟨wo, hwo⟩ : ∃ wo : World, wo = wr := ⟨_, rfl⟩
    subst hwo
    clear p0 p1 p2 p3 p4 p5
    by_cases hlt : j < x.f3.length
    · have hlt' : (j : Int) < (x.f3.length : Int) := by omega
      have hj0 : (0 : Int) ≤ (j : Int) := by omega
      obtain ⟨ad3, rfl, q0⟩ := Kd.at_int (Kd.C_below G3.out hN.out.below) (j : Int) hj0 hlt'
      rw [rd_nat _ j hlt, Int.toNat_natCast] at q0
      have HTK := Go.Lib.hid (List.take_succ_eq_append_getElem hlt)
      have HMM := Go.Lib.hid (List.getElem_mem hlt)
      have HLT := Go.Lib.hid hlt
      have HLL := Go.Lib.hid (show l.length = j by rw [hl.out, List.length_map, List.length_take]; omega)
      generalize x.f3[j] = y at q0 HTK HMM
      clear hlt
      by_cases hy0 : y < 0
      · have hd : decide (y < 0) = true := decide_eq_true hy0
        have HV := Go.Lib.hid (show rv = 3 by
          rw [HRV.out, nErr, if_pos]
          refine badK_of_take (j := j + 1) ?_
          rw [HTK.out, badK_snoc, hd]; simp)
        clear hy0
        go_wp2_with fail
        go_ret
        exact ⟨by rw [HV.out]; rfl, hN.out.below⟩
      · have hd : decide (y < 0) = false := decide_eq_false hy0
        by_cases hy1 : (i : Int) ≤ y
        · have hd1 : decide ((i : Int) ≤ y) = true := decide_eq_true hy1
          have HV := Go.Lib.hid (show rv = 3 by
            rw [HRV.out, nErr, if_pos]
            refine badK_of_take (j := j + 1) ?_
            rw [HTK.out, badK_snoc, hd1]; simp)
          clear hy0 hy1
          go_wp2_with fail
          go_ret
          exact ⟨by rw [HV.out]; rfl, hN.out.below⟩
        · have hd1 : decide ((i : Int) ≤ y) = false := decide_eq_false hy1
          have hy2 : 0 ≤ y := by omega
          have hy3 : y < (t.length : Int) := by omega
          obtain ⟨adt, _, _, e_, r0, -, -, -, -, -, -, -⟩ := at_T27 (Kd.C_below HR.out hN.out.below) y hy2 hy3
          cases e_
          have HBK := Go.Lib.hid (show badK i (x.f3.take (j + 1)) = false by rw [HTK.out, badK_snoc, hbk.out, hd, hd1]; rfl)
          have HKD := Go.Lib.hid (show kd t y = (rd_T27 t y).f0 from rfl)
          have HL1 := Go.Lib.hid (show l ++ [kd t y] = (x.f3.take (j + 1)).map (kd t) by rw [HTK.out, List.map_append, ← hl.out]; rfl)
          clear hy0 hy1
          generalize (rd_T27 t y).f0 = ky at r0 HKD
          rw [HKD.out] at HL1
          go_wp2_with ((with_reducible refine gate_builtin (b := .append) (xs := #[.tmp 32, .tmp 38]) rfl ?_); at_builtin; refine print_append_num (w0 := w) w.heap.size rfl (.tmp 32) (.tmp 38) 25 3 .i64 8 rfl Try.underlying25 info3 (by decide) (.slice A l.length c) l ky rfl (by first | rfl | (go_simp; done) | (go_simp; rfl)) ?q1 ?q2 ?q3 ?q4 ?_; (case q1 => exact hN.out.own); (case q2 => exact hN.out.below); (case q3 => exact hN.out.below.size); (case q4 => have q1_ := HL.out; have q2_ := HLL.out; have q3_ := HLT.out; omega); intro v1 w9 ho9 hb9 hg9 hat9; obtain ⟨A9, c9, rfl⟩ := own_slice ho9; have HN9 := Go.Lib.hid (hN.out.app ho9 hb9 hg9); clear ho9 hb9 hg9 hat9)
          go_roundg (gk - 1)
          case measure => have := hj.out; have := HLT.out; omega
          case rel => exact ⟨j + 1, l ++ [ky], A9, c9, Go.Lib.hid (by have := hj.out; have := HLT.out; omega), by go_num, by rw [List.length_append, List.length_singleton], HL1, HBK, HN9⟩
    · have hd : decide ((j : Int) < (x.f3.length : Int)) = false := decide_eq_false (by omega)
      have hd2 : decide (j < x.f3.length) = false := decide_eq_false hlt
      have hd3 : ¬ (j : Int) < (x.f3.length : Int) := by omega
      have HJ := Go.Lib.hid (show x.f3.take j = x.f3 by rw [List.take_of_length_le (by omega)])
      rw [HJ.out] at hl hbk
      have HLL := Go.Lib.hid (show l.length = x.f3.length by rw [hl.out, List.length_map])
      obtain ⟨n0, n2, n3⟩ := hN.out.cells
      clear hlt hj HJ
      have hexit : kndB x i t.length = true → Hid (rv = 3) := fun h => Go.Lib.hid (by rw [HRV.out, nErr, if_neg (by rw [hbk.out]; decide), if_pos h])
      by_cases k1 : x.f0 < 0
      · have k1d : decide (x.f0 < 0) = true := decide_eq_true k1
        have HV := hexit (by unfold kndB; rw [k1d]; rfl)
        clear k1 hexit
        go_wp2_with fail
        go_ret
        exact ⟨by rw [HV.out]; rfl, hN.out.below⟩
      have k1d : decide (x.f0 < 0) = false := decide_eq_false k1
      by_cases k2 : 38 < x.f0
      · have k2d : decide (38 < x.f0) = true := decide_eq_true k2
        have HV := hexit (by unfold kndB; rw [k1d, k2d]; rfl)
        clear k1 k2 hexit
        go_wp2_with fail
        go_ret
        exact ⟨by rw [HV.out]; rfl, hN.out.below⟩
      have k2d : decide (38 < x.f0) = false := decide_eq_false k2
      have ht0 : (1 : Int) ≤ (t.length : Int) := by omega
      obtain ⟨b1, hb1⟩ : ∃ b1, b1 = decide (x.f0 = 0) := ⟨_, rfl⟩
      obtain ⟨b2, hb2⟩ : ∃ b2, b2 = decide ((i : Int) = (t.length : Int) - 1) := ⟨_, rfl⟩
      have k3 : (x.f0 == 0) = b1 := by rw [hb1]; rfl
      have k4 : ((i : Int) == (t.length : Int) - 1) = b2 := by rw [hb2]; rfl
      have HB1 := Go.Lib.hid hb1
      have HB2 := Go.Lib.hid hb2
      clear hb1 hb2 k1 k2
      by_cases hbb : b1 = b2
      · have HE := Go.Lib.hid (show nErr t i x = if okN t x = false then 3 else if 400 < rd (deps (t.take (i + 1))) i then 2 else if rngB x = true then 4 else 0 by
          rw [nErr, if_neg (by rw [hbk.out]; decide), if_neg]
          unfold kndB; rw [k1d, k2d, ← HB1.out, ← HB2.out, hbb]; simp)
        subst hbb
        clear hexit
        go_wp2_with fail
        refine (shape_calls x.f0 wo).mono ?_
        rintro e w1 ⟨rfl, hdr⟩
        have HN1 := Go.Lib.hid (hN.out.lift hdr.below)
        clear hdr hN n0 n2 n3
        obtain ⟨htx, hok, h10, -⟩ := text_ok x.f0
        have HFC := Go.Lib.hid (fits_all (l.length + 20) (by have := HL.out; have := HLL.out; omega) (itemsOf x.f0) l (textOf x.f0) A c w1 (by omega) hok htx HN1.out.reads (own_cap HN1.out.own) (by have := HL.out; have := HLL.out; omega))
        clear htx hok h10
        go_wp2_with fail
        refine HFC.out.mono ?_
        clear HFC
        rintro e w2 ⟨rfl, hb2⟩
        have HN2 := Go.Lib.hid (HN1.out.lift hb2)
        clear hb2 HN1
        obtain ⟨n0, n2, n3⟩ := HN2.out.cells
        have HQ := Go.Lib.hid (show shpB x.f0 l = if x.f0 = 24 then decide (2 < l.length) && decide (l.length % 2 = 1) && altP l else fit (l.length + 20) (itemsOf x.f0) l from rfl)
        generalize fit (l.length + 20) (itemsOf x.f0) l = fb at *
        obtain ⟨b24, hb24⟩ : ∃ b24, b24 = decide (x.f0 = 24) := ⟨_, rfl⟩
        have k5 : (x.f0 == 24) = b24 := by rw [hb24]; rfl
        have H24 := Go.Lib.hid hb24
        clear hb24
        go_upto_if 67 with fail
        go_cut [9, 10, 11] (fun s9 s10 s11 wx => s9 = .bool (shpB x.f0 l) ∧ Hid (NL w wx x A3 c3 (.slice A l.length c) l))
        case first => as_aux_lemma =>
--A
          cases b24
          rotate_left
          · have hk24 : x.f0 = 24 := of_decide_eq_true H24.out.symm
            obtain ⟨e2, he2⟩ : ∃ e2, e2 = decide (l.length % 2 = 1) := ⟨_, rfl⟩
            have k6 : ((l.length : Int) % 2 == 1) = e2 := by
              rw [he2]
              by_cases h : l.length % 2 = 1
              · rw [decide_eq_true h]; exact beq_iff_eq.2 (by omega)
              · rw [decide_eq_false h]; exact beq_eq_false_iff_ne.2 (by omega)
            obtain ⟨e1, he1⟩ : ∃ e1, e1 = decide (2 < l.length) := ⟨_, rfl⟩
            have k7 : decide (2 < (l.length : Int)) = e1 := by
              rw [he1]
              by_cases h : 2 < l.length
              · rw [decide_eq_true h]; exact decide_eq_true (by omega)
              · rw [decide_eq_false h]; exact decide_eq_false (by omega)
            have k8 : decide (2 < l.length) = e1 := he1.symm
            have HQ2 := Go.Lib.hid (show shpB x.f0 l = (e1 && e2 && altP l) by rw [HQ.out, if_pos hk24, ← he1, ← he2])
            have hl9 : (l.length : Int) ≤ 9223372036854775807 := by have := HLL.out; omega
            obtain ⟨oks, hoks⟩ : ∃ oks, oks = (e1 && e2) := ⟨_, rfl⟩
            have HO := Go.Lib.hid hoks
            clear hk24 he1 he2 hoks
            cases e1
            all_goals go_wp2_with fail
            all_goals clear k6 k7
            all_goals
              go_loopg [9, 79] l.length (fun g_ v9 v79 w' => ∃ (j : Nat) (ok : Bool), Hid (j + g_ = l.length) ∧ v79 = .int .i64 j ∧ v9 = .bool ok ∧ Hid (ok = (oks && altP (l.take j))) ∧ Hid (NL w w' x A3 c3 (.slice A l.length c) l))
              case atStart => exact ⟨0, oks, Go.Lib.hid (by omega), rfl, by rw [HO.out]; rfl, Go.Lib.hid (by cases oks <;> rfl), HN2⟩
              case round =>
                obtain ⟨j, ok, hj, rfl, rfl, hok, hN⟩ := hrel
                obtain ⟨wi, hwi⟩ : ∃ wi : World, wi = wr := ⟨_, rfl⟩
                subst hwi
                clear n0 n2 n3
                by_cases hlt : j < l.length
                · have hlt' : (j : Int) < (l.length : Int) := by omega
                  have hj0 : (0 : Int) ≤ (j : Int) := by omega
                  obtain ⟨adl, e_, q0⟩ := Kd.at_int hN.out.reads (j : Int) hj0 hlt'
                  subst e_
                  rw [rd_nat _ j hlt, Int.toNat_natCast] at q0
                  have HTK := Go.Lib.hid (show altP (l.take (j + 1)) = (altP (l.take j) && altAt j l[j]) by
                    rw [List.take_succ_eq_append_getElem hlt, altP_snoc, List.length_take, Nat.min_eq_left (Nat.le_of_lt hlt)])
                  have HLT := Go.Lib.hid hlt
                  generalize l[j] = y at q0 HTK
                  clear hlt
                  cases ok
                  · have HOK := Go.Lib.hid (show false = (oks && altP (l.take (j + 1))) by rw [HTK.out, ← Bool.and_assoc, ← hok.out]; rfl)
                    go_wp2_with fail
                    go_roundg (gk - 1)
                    case measure => have := hj.out; have := HLT.out; omega
                    case rel => exact ⟨j + 1, false, Go.Lib.hid (by have := hj.out; have := HLT.out; omega), by go_num, rfl, HOK, hN⟩
                  · have HOK := Go.Lib.hid (show altAt j y = (oks && altP (l.take (j + 1))) by rw [HTK.out, ← Bool.and_assoc, ← hok.out]; rfl)
                    by_cases hj2 : j % 2 = 1
                    · have m1 : ((j : Int) % 2 == 1) = true := beq_iff_eq.2 (by omega)
                      have m2 : ((j : Int) % 2 == 0) = false := beq_eq_false_iff_ne.2 (by omega)
                      obtain ⟨bx, hbx⟩ : ∃ bx, bx = decide (y = 3) := ⟨_, rfl⟩
                      have m3 : (y == 3) = bx := by rw [hbx]; rfl
                      have HX := Go.Lib.hid (show bx = (oks && altP (l.take (j + 1))) by rw [← HOK.out, altAt, if_pos hj2, hbx])
                      clear hbx hj2
                      cases bx
                      all_goals
                        go_wp2_with fail
                        go_roundg (gk - 1)
                        case measure => have := hj.out; have := HLT.out; omega
                        case rel => exact ⟨j + 1, _, Go.Lib.hid (by have := hj.out; have := HLT.out; omega), by go_num, rfl, HX, hN⟩
                    · have m1 : ((j : Int) % 2 == 1) = false := beq_eq_false_iff_ne.2 (by omega)
                      have m2 : ((j : Int) % 2 == 0) = true := beq_iff_eq.2 (by omega)
                      have HC := Go.Lib.hid (fun W => isOf_calls 69 y W (by decide))
                      have HX := Go.Lib.hid (show decide (y ∈ kinds 69) = (oks && altP (l.take (j + 1))) by rw [← HOK.out, altAt, if_neg hj2])
                      clear hj2
                      generalize decide (y ∈ kinds 69) = bx at *
                      go_wp2_with (go_at_call 24; refine (HC.out _).mono ?_; rintro e w3 ⟨rfl, hb3⟩; have HN3 := Go.Lib.hid (hN.out.lift hb3); clear hb3)
                      go_roundg (gk - 1)
                      case measure => have := hj.out; have := HLT.out; omega
                      case rel => exact ⟨j + 1, _, Go.Lib.hid (by have := hj.out; have := HLT.out; omega), by go_num, rfl, HX, HN3⟩
                · have hd : decide ((j : Int) < (l.length : Int)) = false := decide_eq_false (by omega)
                  have hd2 : decide (j < l.length) = false := decide_eq_false hlt
                  have hd3 : ¬ (j : Int) < (l.length : Int) := by omega
                  have HV := Go.Lib.hid (show ok = shpB x.f0 l by rw [hok.out, HQ2.out, List.take_of_length_le (by omega), HO.out])
                  clear hlt
                  go_wp2_with fail
                  go_meet
                  exact ⟨congrArg Value.bool HV.out, hN⟩
          · have hk24 : ¬ x.f0 = 24 := of_decide_eq_false H24.out.symm
            have HQ2 := Go.Lib.hid (show shpB x.f0 l = fb by rw [HQ.out, if_neg hk24])
            clear hk24
            go_wp2_with fail
            go_meet
            exact ⟨congrArg Value.bool HQ2.out.symm, HN2⟩
--B
        case rest =>
          obtain ⟨rfl, hN⟩ := hcut
          clear HN2 n0 n2 n3 HQ H24 k5
          obtain ⟨n0, n2, n3⟩ := hN.out.cells
          have HE2 := Go.Lib.hid (show okN t x = (shpB x.f0 l && !(x.f3.any (fldBad t x.f0)) && !impB x x.f3.length) by rw [okN, ← hl.out])
          generalize shpB x.f0 l = b9 at *
          go_wp2_with fail
          clear n0 n2 n3
          go_loopg [9, 107] x.f3.length (fun g_ v9 v107 w' => ∃ (j : Nat) (ok : Bool), Hid (j + g_ = x.f3.length) ∧ v107 = .int .i64 j ∧ v9 = .bool ok ∧ Hid (ok = (b9 && !((x.f3.take j).any (fldBad t x.f0)))) ∧ Hid (NL w w' x A3 c3 (.slice A l.length c) l))
          case atStart => exact ⟨0, b9, Go.Lib.hid (by omega), rfl, rfl, Go.Lib.hid (by simp), hN⟩
          case round =>
            clear hN
            obtain ⟨j, ok, hj, rfl, rfl, hok, hN⟩ := hrel
            obtain ⟨wi, hwi⟩ : ∃ wi : World, wi = wr := ⟨_, rfl⟩
            subst hwi
            obtain ⟨n0, n2, n3⟩ := hN.out.cells
            by_cases hlt : j < x.f3.length
            · have hlt' : (j : Int) < (x.f3.length : Int) := by omega
              have hj0 : (0 : Int) ≤ (j : Int) := by omega
              obtain ⟨adl, e_, q0⟩ := Kd.at_int (Kd.C_below G3.out hN.out.below) (j : Int) hj0 hlt'
              subst e_
              rw [rd_nat _ j hlt, Int.toNat_natCast] at q0
              have HTK := Go.Lib.hid (show (ok && !fldBad t x.f0 x.f3[j]) = (b9 && !((x.f3.take (j + 1)).any (fldBad t x.f0))) by
                rw [hok.out, List.take_succ_eq_append_getElem hlt, List.any_append]
                simp [Bool.and_assoc])
              have HLT := Go.Lib.hid hlt
              have HY := Go.Lib.hid (show 0 ≤ x.f3[j] ∧ x.f3[j] < (i : Int) by
                have h := hbk.out
                unfold badK at h
                have h2 := List.any_eq_false.1 h _ (List.getElem_mem hlt)
                simp at h2
                omega)
              generalize x.f3[j] = y at q0 HTK HY
              clear hlt
              obtain ⟨yn, rfl⟩ : ∃ yn : Nat, y = yn := ⟨y.toNat, by have := HY.out.1; omega⟩
              have hy2 : (0 : Int) ≤ (yn : Int) := by omega
              have hy3 : (yn : Int) < (t.length : Int) := by have := HY.out.2; omega
              have HYT := Go.Lib.hid (show yn < t.length by omega)
              obtain ⟨adt, Ay, cy, e_, r0, -, -, r3, -, -, -, g3y⟩ := at_T27 (Kd.C_below HR.out hN.out.below) (yn : Int) hy2 hy3
              cases e_
              rw [Int.toNat_natCast] at r0 r3
              have HKY := Go.Lib.hid (HK.out yn HYT.out (by have := HY.out.2; omega))
              have HFY := Go.Lib.hid (HF.out yn HYT.out (by have := HY.out.2; omega))
              have HFB := Go.Lib.hid (show fldBad t x.f0 (yn : Int) = (decide ((rd_T27 t (yn : Int)).f0 = 19) && ((decide (x.f0 = 17) && !decide (kd t (rd (rd_T27 t (yn : Int)).f3 0) ∈ kinds 84)) || (decide (x.f0 = 29) && !decide (kd t (rd (rd_T27 t (yn : Int)).f3 0) ∈ kinds 69)))) from rfl)
              rw [rdT_nat t yn HYT.out] at r0 r3 g3y HFB
              generalize t[yn] = cN at r0 r3 g3y HFB HKY HFY
              have GY := Go.Lib.hid g3y
              clear g3y
              by_cases hc19 : cN.f0 = 19
              · have m1 : (cN.f0 == 19) = true := beq_iff_eq.2 hc19
                have HNE := Go.Lib.hid (HFY.out hc19)
                obtain ⟨z, zs, hz⟩ : ∃ z zs, cN.f3 = z :: zs := by
                  cases h : cN.f3 with
                  | nil => exact absurd h HNE.out
                  | cons z zs => exact ⟨z, zs, rfl⟩
                have HZ := Go.Lib.hid (HKY.out z (by rw [hz]; simp))
                have HFC := Go.Lib.hid (show fldBad t x.f0 (yn : Int) = ((decide (x.f0 = 17) && !decide (kd t z ∈ kinds 84)) || (decide (x.f0 = 29) && !decide (kd t z ∈ kinds 69))) by rw [HFB.out, hc19, hz]; rfl)
                have hln : (0 : Int) < (cN.f3.length : Int) := by rw [hz, List.length_cons]; omega
                have hln2 : 0 < cN.f3.length := by omega
                obtain ⟨adz, e_, z0⟩ := Kd.at_int GY.out 0 (by omega) hln
                subst e_
                replace z0 : wi.cell? adz = some (.int .i64 z) := by
                  rw [hz] at z0
                  simpa [Addr.add, rd] using z0
                obtain ⟨zn, rfl⟩ : ∃ zn : Nat, z = zn := ⟨z.toNat, by have := HZ.out.1; omega⟩
                have hz2 : (0 : Int) ≤ (zn : Int) := by omega
                have hz3 : (zn : Int) < (t.length : Int) := by have := HZ.out.2; omega
                obtain ⟨adt, _, _, e_, t0, -, -, -, -, -, -, -⟩ := at_T27 (Kd.C_below HR.out hN.out.below) (zn : Int) hz2 hz3
                cases e_
                rw [Int.toNat_natCast] at t0
                have HKZ := Go.Lib.hid (show kd t (zn : Int) = (rd_T27 t (zn : Int)).f0 from rfl)
                generalize (rd_T27 t (zn : Int)).f0 = kz at t0 HKZ
                rw [HKZ.out] at HFC
                clear hc19 hz HFB HNE HKY HFY
                by_cases h17 : x.f0 = 17
                · have m2 : (x.f0 == 17) = true := beq_iff_eq.2 h17
                  have m3 : (x.f0 == 29) = false := beq_eq_false_iff_ne.2 (by omega)
                  have HFD := Go.Lib.hid (show fldBad t x.f0 (yn : Int) = !decide (kz ∈ kinds 84) by rw [HFC.out, h17]; simp)
                  have HC := Go.Lib.hid (fun W => isOf_calls 84 kz W (by decide))
                  clear h17
                  rw [HFD.out] at HTK
                  clear HFC HFD
                  generalize decide (kz ∈ kinds 84) = bx at *
                  cases bx
                  · go_wp2_with (go_at_call 24; refine (HC.out _).mono ?_; rintro e w3 ⟨rfl, hb3⟩; have HN3 := Go.Lib.hid (hN.out.lift hb3); replace r0 := pw_cell_below hb3 r0; replace n0 := pw_cell_below hb3 n0; clear hb3)
                    go_roundg (gk - 1)
                    case measure => have := hj.out; have := HLT.out; omega
                    case rel => exact ⟨j + 1, false, Go.Lib.hid (by have := hj.out; have := HLT.out; omega), by go_num, rfl, Go.Lib.hid (by rw [← HTK.out]; cases ok <;> rfl), HN3⟩
                  · go_wp2_with (go_at_call 24; refine (HC.out _).mono ?_; rintro e w3 ⟨rfl, hb3⟩; have HN3 := Go.Lib.hid (hN.out.lift hb3); replace r0 := pw_cell_below hb3 r0; replace n0 := pw_cell_below hb3 n0; clear hb3)
                    go_roundg (gk - 1)
                    case measure => have := hj.out; have := HLT.out; omega
                    case rel => exact ⟨j + 1, ok, Go.Lib.hid (by have := hj.out; have := HLT.out; omega), by go_num, rfl, Go.Lib.hid (by rw [← HTK.out]; cases ok <;> rfl), HN3⟩
                have m2 : (x.f0 == 17) = false := beq_eq_false_iff_ne.2 h17
                by_cases h29 : x.f0 = 29
                · have m3 : (x.f0 == 29) = true := beq_iff_eq.2 h29
                  have HFD := Go.Lib.hid (show fldBad t x.f0 (yn : Int) = !decide (kz ∈ kinds 69) by rw [HFC.out, h29]; simp)
                  have HC := Go.Lib.hid (fun W => isOf_calls 69 kz W (by decide))
                  clear h17 h29
                  rw [HFD.out] at HTK
                  clear HFC HFD
                  generalize decide (kz ∈ kinds 69) = bx at *
                  cases bx
                  · go_wp2_with (go_at_call 24; refine (HC.out _).mono ?_; rintro e w3 ⟨rfl, hb3⟩; have HN3 := Go.Lib.hid (hN.out.lift hb3); replace r0 := pw_cell_below hb3 r0; replace n0 := pw_cell_below hb3 n0; clear hb3)
                    go_roundg (gk - 1)
                    case measure => have := hj.out; have := HLT.out; omega
                    case rel => exact ⟨j + 1, false, Go.Lib.hid (by have := hj.out; have := HLT.out; omega), by go_num, rfl, Go.Lib.hid (by rw [← HTK.out]; cases ok <;> rfl), HN3⟩
                  · go_wp2_with (go_at_call 24; refine (HC.out _).mono ?_; rintro e w3 ⟨rfl, hb3⟩; have HN3 := Go.Lib.hid (hN.out.lift hb3); replace r0 := pw_cell_below hb3 r0; replace n0 := pw_cell_below hb3 n0; clear hb3)
                    go_roundg (gk - 1)
                    case measure => have := hj.out; have := HLT.out; omega
                    case rel => exact ⟨j + 1, ok, Go.Lib.hid (by have := hj.out; have := HLT.out; omega), by go_num, rfl, Go.Lib.hid (by rw [← HTK.out]; cases ok <;> rfl), HN3⟩
                · have m3 : (x.f0 == 29) = false := beq_eq_false_iff_ne.2 h29
                  have HFD := Go.Lib.hid (show fldBad t x.f0 (yn : Int) = false by rw [HFC.out, decide_eq_false h17, decide_eq_false h29]; rfl)
                  clear h17 h29
                  go_wp2_with fail
                  go_roundg (gk - 1)
                  case measure => have := hj.out; have := HLT.out; omega
                  case rel => exact ⟨j + 1, ok, Go.Lib.hid (by have := hj.out; have := HLT.out; omega), by go_num, rfl, Go.Lib.hid (by rw [← HTK.out, HFD.out]; cases ok <;> rfl), hN⟩
              · have m1 : (cN.f0 == 19) = false := beq_eq_false_iff_ne.2 hc19
                · have HFD := Go.Lib.hid (show fldBad t x.f0 (yn : Int) = false by rw [HFB.out, decide_eq_false hc19]; rfl)
                  clear hc19 HFB
                  go_wp2_with fail
                  go_roundg (gk - 1)
                  case measure => have := hj.out; have := HLT.out; omega
                  case rel => exact ⟨j + 1, ok, Go.Lib.hid (by have := hj.out; have := HLT.out; omega), by go_num, rfl, Go.Lib.hid (by rw [← HTK.out, HFD.out]; cases ok <;> rfl), hN⟩
            · have hd : decide ((j : Int) < (x.f3.length : Int)) = false := decide_eq_false (by omega)
              have hd2 : decide (j < x.f3.length) = false := decide_eq_false hlt
              have hd3 : ¬ (j : Int) < (x.f3.length : Int) := by omega
              have HE3 := Go.Lib.hid (show okN t x = (ok && !impB x x.f3.length) by
                rw [HE2.out]; congr 1
                have h := hok.out
                rw [List.take_of_length_le (by omega)] at h
                exact h.symm)
              clear hlt hok HE2
              go_upto_region 26 with fail
              go_cut [188] (fun s188 wx => s188 = .bool (impB x x.f3.length) ∧ Hid (NL w wx x A3 c3 (.slice A l.length c) l))
              case first => as_aux_lemma =>
                by_cases h1 : x.f0 = 1
                · have m1 : (x.f0 == 1) = true := beq_iff_eq.2 h1
                  by_cases hn1 : x.f2 = 1
                  · have m2 : (x.f2 != 1) = false := bne_eq_false_iff_eq.2 hn1
                    have m3 : (x.f2 == 0) = false := beq_eq_false_iff_ne.2 (by omega)
                    have HI2 := Go.Lib.hid (show impB x x.f3.length = false by unfold impB; rw [h1, hn1]; simp)
                    clear h1 hn1
                    go_wp2_with fail
                    go_meet
                    exact ⟨congrArg Value.bool HI2.out.symm, hN⟩
                  · have m2 : (x.f2 != 1) = true := bne_iff_ne.2 hn1
                    by_cases hn0 : x.f2 = 0
                    · have m3 : (x.f2 == 0) = true := beq_iff_eq.2 hn0
                      have m4 : (x.f2 != 0) = false := bne_eq_false_iff_eq.2 hn0
                      have HI2 := Go.Lib.hid (show impB x x.f3.length = decide (0 < l.length) by unfold impB; rw [h1, hn0, HLL.out]; simp)
                      clear h1 hn1 hn0
                      by_cases h9 : 0 < l.length
                      · have d1 : decide (0 < l.length) = true := decide_eq_true h9
                        have d2 : decide ((0 : Int) < (l.length : Int)) = true := decide_eq_true (by omega)
                        rw [d1] at HI2
                        clear h9
                        go_wp2_with fail
                        go_meet
                        exact ⟨congrArg Value.bool HI2.out.symm, hN⟩
                      · have d1 : decide (0 < l.length) = false := decide_eq_false h9
                        have d2 : decide ((0 : Int) < (l.length : Int)) = false := decide_eq_false (by omega)
                        rw [d1] at HI2
                        clear h9
                        go_wp2_with fail
                        go_meet
                        exact ⟨congrArg Value.bool HI2.out.symm, hN⟩
                    · have m3 : (x.f2 == 0) = false := beq_eq_false_iff_ne.2 hn0
                      have m4 : (x.f2 != 0) = true := bne_iff_ne.2 hn0
                      have HI2 := Go.Lib.hid (show impB x x.f3.length = true by unfold impB; rw [h1, decide_eq_false hn1, decide_eq_false hn0]; simp)
                      clear h1 hn1 hn0
                      go_wp2_with fail
                      go_meet
                      exact ⟨congrArg Value.bool HI2.out.symm, hN⟩
                · have m1 : (x.f0 == 1) = false := beq_eq_false_iff_ne.2 h1
                  have HI2 := Go.Lib.hid (show impB x x.f3.length = false by unfold impB; rw [decide_eq_false h1]; rfl)
                  clear h1
                  go_wp2_with fail
                  go_meet
                  exact ⟨congrArg Value.bool HI2.out.symm, hN⟩
              case rest => as_aux_lemma =>
                clear hN n0 n2 n3
                obtain ⟨rfl, hN⟩ := hcut
                obtain ⟨n0, n2, n3⟩ := hN.out.cells
                have HV3 := Go.Lib.hid (show okN t x = false → rv = 3 from fun h => by rw [HRV.out, HE.out, if_pos h])
                have HV4 := Go.Lib.hid (show okN t x = true → rv = if 400 < rd (deps (t.take (i + 1))) i then 2 else if rngB x = true then 4 else 0 from fun h => by rw [HRV.out, HE.out, if_neg (by rw [h]; decide)])
                generalize impB x x.f3.length = bi at *
                cases bi
                rotate_left
                · have HV := Go.Lib.hid (HV3.out (by rw [HE3.out]; simp))
                  go_wp2_with fail
                  go_ret
                  exact ⟨by rw [HV.out]; rfl, hN.out.below⟩
                cases ok
                · have HV := Go.Lib.hid (HV3.out (by rw [HE3.out]; rfl))
                  go_wp2_with fail
                  go_ret
                  exact ⟨by rw [HV.out]; rfl, hN.out.below⟩
                have HV := Go.Lib.hid (HV4.out (by rw [HE3.out]; rfl))
                have HDC := Go.Lib.hid (depth_calls t i (some ad) c0 wc (Kd.C_below HR.out hN.out.below) HI.out HT.out (fun k h hk y hy => by
                  by_cases e : k = i
                  · subst e
                    rw [← rdT_nat t k h, HXX.out] at hy
                    have h := hbk.out
                    unfold badK at h
                    have h2 := List.any_eq_false.1 h _ hy
                    simp at h2
                    omega
                  · exact HK.out k h (by omega) y hy))
                generalize rd (deps (t.take (i + 1))) i = d at *
                clear HV3 HV4 HE HE3
                go_wp2_with fail
                refine HDC.out.mono ?_
                rintro e w4 ⟨rfl, hb4⟩
                have HN4 := Go.Lib.hid (hN.out.lift hb4)
                clear hb4 HDC n0 n2 n3 hN
                obtain ⟨n0, n2, n3⟩ := HN4.out.cells
                by_cases hd4 : 400 < d
                · have d1 : decide (400 < d) = true := decide_eq_true hd4
                  have HV2 := Go.Lib.hid (show rv = 2 by rw [HV.out, if_pos hd4])
                  clear hd4
                  go_wp2_with fail
                  go_ret
                  exact ⟨by rw [HV2.out]; rfl, HN4.out.below⟩
                have d1 : decide (400 < d) = false := decide_eq_false hd4
                have HV2 := Go.Lib.hid (show rv = if rngB x = true then 4 else 0 by rw [HV.out, if_neg hd4])
                clear hd4 HV
                go_upto_region 32 with fail
                go_cut [197] (fun s197 wx => s197 = .bool (rngB x) ∧ Hid (NL w wx x A3 c3 (.slice A l.length c) l))
                case first => as_aux_lemma =>
                  obtain ⟨a1, ha1⟩ : ∃ a, a = decide (x.f0 = 21) := ⟨_, rfl⟩
                  obtain ⟨a2, ha2⟩ : ∃ a, a = decide (x.f0 = 37) := ⟨_, rfl⟩
                  obtain ⟨a3, ha3⟩ : ∃ a, a = decide (x.f0 = 4) := ⟨_, rfl⟩
                  obtain ⟨e1, he1⟩ : ∃ a, a = decide (x.f2 < 0) := ⟨_, rfl⟩
                  obtain ⟨e2, he2⟩ : ∃ a, a = decide (1073741823 < x.f2) := ⟨_, rfl⟩
                  obtain ⟨e3, he3⟩ : ∃ a, a = decide (30 ≤ x.f2) := ⟨_, rfl⟩
                  have m1 : (x.f0 == 21) = a1 := by rw [ha1]; rfl
                  have m2 : (x.f0 == 37) = a2 := by rw [ha2]; rfl
                  have m3 : (x.f0 == 4) = a3 := by rw [ha3]; rfl
                  have m4 : decide (x.f2 < 0) = e1 := he1.symm
                  have m5 : decide (1073741823 < x.f2) = e2 := he2.symm
                  have m6 : decide (30 ≤ x.f2) = e3 := he3.symm
                  have HRG := Go.Lib.hid (show rngB x = ((a1 || a2) && (e1 || e2) || a3 && (e1 || e3)) by unfold rngB; rw [ha1, ha2, ha3, he1, he2, he3])
                  have H12 := Go.Lib.hid (show (a1 && a2) = false ∧ (a1 && a3) = false ∧ (a2 && a3) = false by
                    rw [ha1, ha2, ha3]; simp only [Bool.and_eq_false_iff, decide_eq_false_iff_not]; omega)
                  clear ha1 ha2 ha3 he1 he2 he3
                  cases a1
                  · cases a2
                    · cases a3
                      · as_aux_lemma =>
                          go_wp2_with fail
                          go_meet
                          exact ⟨congrArg Value.bool HRG.out.symm, HN4⟩
                      · clear m5 H12
                        cases e1
                        all_goals cases e3
                        all_goals as_aux_lemma =>
                          go_wp2_with fail
                          go_meet
                          exact ⟨congrArg Value.bool HRG.out.symm, HN4⟩
                    · obtain rfl : a3 = false := by have h := H12.out; simp at h; exact h
                      clear m6 H12
                      cases e1
                      all_goals cases e2
                      all_goals as_aux_lemma =>
                        go_wp2_with fail
                        go_meet
                        exact ⟨congrArg Value.bool HRG.out.symm, HN4⟩
                  · obtain rfl : a2 = false := by have h := H12.out; simp at h; exact h.1
                    obtain rfl : a3 = false := by have h := H12.out; simp at h; exact h
                    clear m6 H12
                    cases e1
                    all_goals cases e2
                    all_goals as_aux_lemma =>
                      go_wp2_with fail
                      go_meet
                      exact ⟨congrArg Value.bool HRG.out.symm, HN4⟩
                case rest => as_aux_lemma =>
                  clear HN4 n0 n2 n3
                  obtain ⟨rfl, hN⟩ := hcut
                  generalize rngB x = br at *
                  cases br
                  · have HV := Go.Lib.hid (show rv = 0 by rw [HV2.out]; rfl)
                    go_wp2_with fail
                    go_ret
                    exact ⟨by rw [HV.out]; rfl, hN.out.below⟩
                  · have HV := Go.Lib.hid (show rv = 4 by rw [HV2.out]; rfl)
                    go_wp2_with fail
                    go_ret
                    exact ⟨by rw [HV.out]; rfl, hN.out.below⟩
      · have HV := hexit (by unfold kndB; rw [k1d, k2d, ← HB1.out, ← HB2.out]; cases b1 <;> cases b2 <;> simp_all)
        clear hexit HB1 HB2
        cases b1
        all_goals cases b2
        all_goals first
          | exact absurd rfl hbb
          | (clear hbb
             go_wp2_with fail
             go_ret
             exact ⟨by rw [HV.out]; rfl, hN.out.below⟩)
end Go.Proofs.Ytemdfhaceddmpaa.Tr
