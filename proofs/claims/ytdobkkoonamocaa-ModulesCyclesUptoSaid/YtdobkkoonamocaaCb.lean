/- Index, and modules.reaches. -/
import Derived.Test.YtdobkkoonamocaaCa
import Derived.Test.YtdobkkoonamocaaCp
namespace Go.Proofs.Ytdobkkoonamocaa.Mo
open Go.RowKit Go.Lib Go.Proofs.Ytdobkkoonamocaa.PModulesOrdered Go.Proofs.YtdobkkoonamocaaW.PrintWords Go.Proofs.YtdobkkoonamocaaW.PrintLast Go.Proofs.YtdobkkoonamocaaW.PrintMore
set_option linter.unusedVariables false
set_option linter.unusedSimpArgs false
/-- The number of a name. -/
def idxS (N : List ByteArray) (s : Str) : Nat := N.findIdx fun x => decide (x.toList = s)
theorem idx_lt {N : List ByteArray} {s : ByteArray} (h : hasB N s = true) : idxS N s.toList < N.length := by
  unfold hasB at h
  unfold idxS
  rw [List.any_eq_true] at h
  exact List.findIdx_lt_length_of_exists h
theorem index_from2 (l : List ByteArray) (s : ByteArray) (hl : l.length < LIM) : ∀ (d i k : Nat), i + d = l.length → d < k → hasB (l.drop i) s = true → slices_Index_string_string.l0 k l s (l.length : Int) (i : Int) = some (((i + idxS (l.drop i) s.toList : Nat)) : Int) := by
  unfold LIM at hl
  intro d
  induction d with
  | zero =>
    intro i k hi hk h
    rw [List.drop_eq_nil_of_le (by omega)] at h
    cases h
  | succ d ih =>
    intro i k hi hk h
    obtain ⟨k, rfl⟩ : ∃ m, k = m + 1 := ⟨k - 1, by omega⟩
    simp only [slices_Index_string_string.l0]
    rw [if_pos (by omega), if_pos (by omega), if_pos (by omega), w64i i (by omega)]
    have hlt : i < l.length := by omega
    unfold idxS
    rw [drop_sx hlt, List.findIdx_cons]
    by_cases he : s.toList = (sx l (i : Int)).toList
    · rw [if_pos he, decide_eq_true he.symm]; simp
    · rw [if_neg he, decide_eq_false (fun e => he e.symm)]
      rw [hasB_drop hlt, decide_eq_false (fun e => he e.symm), Bool.false_or] at h
      rw [ih (i + 1) k (by omega) (by omega) h]
      unfold idxS
      simp only [cond_false]
      congr 1
      omega
theorem idx_calls (l : List ByteArray) (s : ByteArray) (A : Option Addr) (c : Nat) (w : World) (hl : l.length < LIM) (hr : RdS w A l) (hc : l.length ≤ c) (h : hasB l s = true) :
    Calls Try.prog 23 #[.slice A l.length c, .string s] w fun e w' => e = .returned (.int .i64 ((idxS l s.toList : Nat) : Int)) ∧ Drawn0 w w' :=
  slices_Index_string_string.calls (l.length + 1) A c l s _ w hr hc (by
    unfold slices_Index_string_string.f
    have h2 := index_from2 l s hl l.length 0 (l.length + 1) (by omega) (by omega) (by rw [List.drop_zero]; exact h)
    rw [List.drop_zero, Nat.zero_add] at h2
    exact h2)
/-- The imports of a name. -/
def nxB (N : List ByteArray) (I : List (List ByteArray)) (s : Str) : List ByteArray := rd_L1 I ((idxS N s : Nat) : Int)
def nxS (N : List ByteArray) (I : List (List ByteArray)) (s : Str) : List Str := dS (nxB N I s)
/-- What the walks know of the modules. -/
structure Mods (N : List ByteArray) (I : List (List ByteArray)) : Prop where
  n16 : N.length ≤ 16
  same : I.length = N.length
  all : ∀ l ∈ I, ∀ x ∈ l, hasB N x = true
  small : ∀ l ∈ I, l.length ≤ 1048576
theorem nxB_mem {N : List ByteArray} {I : List (List ByteArray)} (hM : Mods N I) {s : ByteArray} (h : hasB N s = true) : nxB N I s.toList ∈ I := by
  have h1 := idx_lt h
  unfold nxB
  rw [rd_L1_get (by rw [hM.same]; exact h1)]
  exact List.getElem_mem _
theorem dS_app (a b : List ByteArray) : dS (a ++ b) = dS a ++ dS b := by simp [dS]
theorem dS_take (l : List ByteArray) (i : Nat) : dS (l.take i) = (dS l).take i := by simp [dS, List.map_take]
/-- Names as the program has them. -/
def bsC (l : List Str) : List ByteArray := l.map fun s => ⟨⟨s⟩⟩
theorem bsC_length (l : List Str) : (bsC l).length = l.length := by simp [bsC]
theorem bsC_enc (l : List Str) : l.map encStr = strsV (bsC l) := by
  have h := Lib.map_encStr (bsC l)
  have e : (bsC l).map (·.data.toList) = l := by unfold bsC; rw [List.map_map]; exact List.map_id'' (fun _ => rfl) l
  rw [e] at h
  exact h
theorem dS_bsC (l : List Str) : dS (bsC l) = l := by
  unfold dS bsC
  rw [List.map_map]
  refine List.map_id'' (fun s => ?_) l
  show ByteArray.toList _ = s
  rw [ByteArray.toList_eq]
theorem strs_encs (l : List ByteArray) : strsV l = encs Value.string l := rfl
theorem own_C2 {W : World} {B : Nat} {A : Option Addr} {c : Nat} {l : List ByteArray} (h : W.ownsRow B 9 1 (.slice A l.length c) l.length (strsV l)) : RdS W A l :=
  Kd.C_of_reads (d := ByteArray.empty) (h1 := fun _ => rfl) (own_reads_of' h)
theorem nodup_le : ∀ (w N : List Str), w.Nodup → (∀ x ∈ w, x ∈ N) → w.length ≤ N.length
  | [], N, _, _ => Nat.zero_le _
  | a :: w, N, h, hs => by
    have h1 := List.nodup_cons.1 h
    have h2 := nodup_le w (N.erase a) h1.2 (fun x hx => (List.mem_erase_of_ne (fun e => h1.1 (by rw [← e]; exact hx))).2 (hs x (List.mem_cons_of_mem _ hx)))
    have h3 := List.length_erase_of_mem (hs a List.mem_cons_self)
    have h4 : 0 < N.length := List.length_pos_of_mem (hs a List.mem_cons_self)
    rw [List.length_cons]
    omega
theorem hasB_mem {N : List ByteArray} {s : ByteArray} : hasB N s = true ↔ s.toList ∈ dS N := by
  unfold hasB dS
  rw [List.any_eq_true, List.mem_map]
  exact ⟨fun ⟨x, h1, h2⟩ => ⟨x, h1, of_decide_eq_true h2⟩, fun ⟨x, h1, h2⟩ => ⟨x, h1, decide_eq_true h2⟩⟩
set_option maxHeartbeats 8000000 in
set_option maxRecDepth 100000 in
theorem reach_calls (N : List ByteArray) (I : List (List ByteArray)) (hM : Mods N I) (A0 A1 : Option Addr) (c0 c1 : Nat) (f t : ByteArray) (steps : Nat) (w : World) (hr0 : RdS w A0 N) (hc0 : N.length ≤ c0) (hr1 : Kd.C (Kd.slice 9 Kd.string) w A1 I.length I) (hc1 : I.length ≤ c1) (hf : hasB N f = true) (hst : steps ≤ 1000) :
    Calls Try.prog 45 #[.slice A0 N.length c0, .slice A1 I.length c1, .string f, .string t, .int .i64 steps] w fun e w' => e = .returned (.bool (reachP (nxS N I) t.toList steps [f.toList])) ∧ Below w.heap.size w w' := by
  have HR0 := Go.Lib.hid hr0
  have HR1 := Go.Lib.hid hr1
  have HM := Go.Lib.hid hM
  have HF := Go.Lib.hid hf
  have hst9 : (steps : Int) ≤ 1000 := by omega
  have hH0 := Go.Lib.hid (show RdS (w.alloc (.cells #[.string f] 9)) (some ⟨w.heap.size, 0, none⟩) [f] from lit_S (blk_new w _) rfl (by simp))
  have hB0 := Go.Lib.hid (below_alloc (Below.refl w.heap.size w) (.cells #[.string f] 9))
  clear hr0 hr1 hM hf hst
  go_enter Try.func45, Try.ntmps45
  go_wp2_with fail
  generalize w.alloc (.cells #[.string f] 9) = w1 at *
  go_loopg [11, 18] steps (fun k v11 v18 wr => ∃ (j : Nat) (H : List ByteArray) (A : Option Addr) (c : Nat), Hid (j + k = steps) ∧ v18 = .int .i64 j ∧ v11 = .slice A H.length c ∧ Hid (RdS wr A H ∧ H.length ≤ c) ∧ Hid (H.length ≤ 16) ∧ Hid (∀ x ∈ H, hasB N x = true) ∧ Hid (reachP (nxS N I) t.toList k (dS H) = reachP (nxS N I) t.toList steps [f.toList]) ∧ Hid (Below w.heap.size w wr))
  case atStart => exact ⟨0, [f], _, 1, Go.Lib.hid (by omega), rfl, rfl, Go.Lib.hid ⟨hH0.out, Nat.le_refl _⟩, Go.Lib.hid (by simp), Go.Lib.hid (fun x hx => by rw [List.mem_singleton.1 hx]; exact HF.out), Go.Lib.hid rfl, hB0⟩
  case round =>
    clear hH0 hB0
    obtain ⟨j, H, A, c, hj, rfl, rfl, hRH, hHl, hHN, hP, hB⟩ := hrel
    cases gk with
    | zero =>
      have h0 := Go.Lib.hid (show j = steps by have := hj.out; omega)
      have hjd : decide ((j : Int) < (steps : Int)) = false := decide_eq_false (by have := h0.out; omega)
      have hjd2 : decide (j < steps) = false := decide_eq_false (by have := h0.out; omega)
      have hjn : ¬ (j : Int) < (steps : Int) := by have := h0.out; omega
      go_wp2_with fail
      go_ret
      exact ⟨by rw [← hP.out]; rfl, hB.out⟩
    | succ k =>
      have hjl : (j : Int) < (steps : Int) := by have := hj.out; omega
      have hH9 : (H.length : Int) ≤ 16 := by have := hHl.out; omega
      have hH0 : (0 : Int) ≤ (H.length : Int) := by omega
      obtain ⟨wo, rfl⟩ : ∃ wo, wo = wr := ⟨_, rfl⟩
      go_wp2_with fail
      go_loopg [12, 22] H.length (fun k2 v12 v22 wx => ∃ (i : Nat) (M : List ByteArray) (A2 : Option Addr) (c2 : Nat), Hid (i + k2 = H.length) ∧ v22 = .int .i64 i ∧ v12 = .slice A2 M.length c2 ∧ Hid (wx.ownsRow wo.heap.size 9 1 (.slice A2 M.length c2) M.length (strsV M)) ∧ Hid (dS M = ((dS H).take i).flatMap (nxS N I)) ∧ Hid (M.length ≤ i * 1048576) ∧ Hid (Below wo.heap.size wo wx))
      case atStart => exact ⟨0, [], none, 0, Go.Lib.hid (by omega), rfl, rfl, Go.Lib.hid (World.ownsRow_nil _ _ _ _), Go.Lib.hid (by simp [dS]), Go.Lib.hid (by simp), Go.Lib.hid (Below.refl _ _)⟩
      case round =>
        obtain ⟨i, M, A2, c2, hi, rfl, rfl, hO, hD, hML, hB2⟩ := hrel
        by_cases hlt : i < H.length
        · have hlt' : (i : Int) < (H.length : Int) := by omega
          have hi0 : (0 : Int) ≤ (i : Int) := by omega
          obtain ⟨y, hy⟩ : ∃ y, H[i]? = some y := ⟨_, List.getElem?_eq_getElem hlt⟩
          have hyN := Go.Lib.hid (hHN.out y (List.mem_of_getElem? hy))
          obtain ⟨ad, rfl, y0⟩ := (hRH.out.1.up hB2.out).at_ hy
          have hBw := Go.Lib.hid (hB.out.trans (hB2.out.mono hB.out.size))
          have HI := Go.Lib.hid (idx_calls N y A0 c0 wr (by have := HM.out.n16; unfold LIM; omega) (HR0.out.up hBw.out) hc0 hyN.out)
          have hdn := Go.Lib.hid (show ((dS H).take (i + 1)).flatMap (nxS N I) = ((dS H).take i).flatMap (nxS N I) ++ nxS N I y.toList from by
            have h1 : (dS H)[i]? = some y.toList := by unfold dS; rw [List.getElem?_map, hy]; rfl
            obtain ⟨hl2, h2⟩ := List.getElem?_eq_some_iff.1 h1
            rw [List.take_succ_eq_append_getElem hl2, h2, List.flatMap_append]
            simp)
          have hix := Go.Lib.hid (show idxS N y.toList < I.length by rw [HM.out.same]; exact idx_lt hyN.out)
          have hsm := Go.Lib.hid (show (nxB N I y.toList).length ≤ 1048576 from HM.out.small _ (nxB_mem HM.out hyN.out))
          obtain ⟨x, hx⟩ : ∃ x, x = idxS N y.toList := ⟨_, rfl⟩
          have HX := Go.Lib.hid hx
          rw [← hx] at HI hix
          have hx1 : (x : Int) < (I.length : Int) := by have := hix.out; omega
          have hx0 : (0 : Int) ≤ (x : Int) := by omega
          have HLT := Go.Lib.hid hlt
          clear hlt hy hx hyN
          go_wp2_with fail
          refine HI.out.mono ?_
          rintro e w3 ⟨rfl, hd3⟩
          have hb3 := Go.Lib.hid hd3.below
          obtain ⟨adI, Ar, cr, rfl, z0, hcr, hRr⟩ := at_L1 (Kd.C_below HR1.out (hBw.out.trans (hb3.out.mono hBw.out.size))) (x : Int) hx0 hx1
          rw [Int.toNat_natCast] at z0
          have HRr := Go.Lib.hid (show ReadsOf Value.string ByteArray.empty w3 Ar (rd_L1 I (x : Int)).length (rd_L1 I (x : Int)) from Kd.reads_of_C (h1 := fun _ => rfl) hRr)
          have hsm2 := Go.Lib.hid (show (rd_L1 I (x : Int)).length ≤ 1048576 by have h := hsm.out; unfold nxB at h; rw [← HX.out] at h; exact h)
          have hnx := Go.Lib.hid (show nxS N I y.toList = dS (rd_L1 I (x : Int)) by rw [HX.out]; rfl)
          generalize rd_L1 I (x : Int) = rw_ at *
          have hO3 := Go.Lib.hid (pw_own_below hO.out hb3.out)
          have hB3 := Go.Lib.hid (hB2.out.trans (hb3.out.mono hB2.out.size))
          clear hd3 HI hRr hb3 y0
          go_wp2_with ((with_reducible refine gate_builtin (b := .append) (xs := #[.tmp 26, .tmp 32]) rfl ?_); at_builtin; refine print_append_row_of (w0 := wo) Value.string ByteArray.empty wo.heap.size rfl (.tmp 26) (.tmp 32) 22 9 (.string ⟨#[]⟩) 16 rfl Try.underlying22 info9 rfl (by decide) (fun _ => rfl) (.slice A2 M.length c2) M rw_ Ar rw_.length cr rfl rfl ?q1 ?q2 ?q3 ?q4 ?q5 ?_; (case q1 => exact hO3.out); (case q2 => exact HRr.out); (case q3 => exact hB3.out); (case q4 => exact hB3.out.size); (case q5 => have q1_ := hML.out; have q2_ := hsm2.out; have q3_ := HLT.out; have q4_ := hHl.out; omega); intro v1 w11 ho9 hb9 hg9 hat9; obtain ⟨A9, c9, rfl⟩ := own_slice ho9; have HO9 := Go.Lib.hid ho9; have HB9 := Go.Lib.hid hb9; clear ho9 hb9 hg9 hat9)
          go_roundg (gk - 1)
          case measure => have := hi.out; have := HLT.out; omega
          case rel =>
            exact ⟨i + 1, M ++ rw_, A9, c9, Go.Lib.hid (by have := hi.out; have := HLT.out; omega), by go_num, by rw [List.length_append], HO9, Go.Lib.hid (by rw [dS_app, hD.out, hdn.out, hnx.out]), Go.Lib.hid (by have h1 := hML.out; have h2 := hsm2.out; rw [List.length_append]; omega), HB9⟩
        · have hin := Go.Lib.hid (show i = H.length by have := hi.out; omega)
          have hjd : decide ((i : Int) < (H.length : Int)) = false := decide_eq_false (by omega)
          have hjd2 : decide (i < H.length) = false := decide_eq_false hlt
          have hjn : ¬ (i : Int) < (H.length : Int) := by omega
          have hD2 := Go.Lib.hid (show dS M = (dS H).flatMap (nxS N I) by rw [hD.out, hin.out, ← dS_length, List.take_length])
          have hML2 := Go.Lib.hid (show M.length ≤ 16777216 by have h1 := hML.out; have h2 := hHl.out; rw [hin.out] at h1; omega)
          have hBw := Go.Lib.hid (hB.out.trans (hB2.out.mono hB.out.size))
          have hO2 := Go.Lib.hid (show wr.ownsRow wo.heap.size 9 1 (.slice A2 (dS M).length c2) (dS M).length ((dS M).map encStr) from by rw [dS_length, ← dS_enc]; exact hO.out)
          obtain ⟨ss, hss⟩ : ∃ ss, ss = dS M := ⟨_, rfl⟩
          have hsl := Go.Lib.hid (show ss.length = M.length by rw [hss, dS_length])
          rw [← hss] at hO2 hD2
          rw [show M.length = ss.length from hsl.out.symm]
          clear hlt hss hD hML hO
          go_wp2_with fail
          refine (sort_own hO2.out (by have h1 := hML2.out; have h2 := hsl.out; omega) hB2.out.size).mono ?_
          rintro e w3 ⟨rfl, ho3, hg3, hb3⟩
          have hB3 := Go.Lib.hid (hB2.out.trans hb3)
          have hO3 := Go.Lib.hid ho3
          obtain ⟨sl, hsl2⟩ : ∃ sl, sl = ss.mergeSort leS := ⟨_, rfl⟩
          have hln := Go.Lib.hid (show ss.length = sl.length by rw [hsl2]; simp)
          have hSL := Go.Lib.hid hsl2
          rw [← hsl2, hln.out] at hO3
          rw [hln.out]
          clear ho3 hg3 hb3 hsl2 hO2
          go_wp2_with fail
          refine (compact_own hO3.out (by have h1 := hML2.out; have h2 := hsl.out; have h3 := hln.out; omega) hB3.out.size).mono ?_
          rintro e w4 ⟨rfl, ho4, hg4, hb4⟩
          have hB4 := Go.Lib.hid (hB3.out.trans hb4)
          obtain ⟨H2, hH2⟩ : ∃ H2, H2 = bsC (compact sl) := ⟨_, rfl⟩
          have hdH := Go.Lib.hid (show compact sl = dS H2 by rw [hH2, dS_bsC])
          have hlc := Go.Lib.hid (show (compact sl).length = H2.length by rw [hH2, bsC_length])
          rw [bsC_enc, ← hH2, hlc.out] at ho4
          have hRd := Go.Lib.hid (own_C2 ho4)
          have hcap := own_cap ho4
          have hP2 := Go.Lib.hid (show reachP (nxS N I) t.toList (k + 1) (dS H) = (hasB H2 t || reachP (nxS N I) t.toList k (dS H2)) from by
            rw [reachP, ← hD2.out, ← hSL.out, hdH.out]
            congr 1
            cases hb : hasB H2 t with
            | true => simpa using hasB_mem.1 hb
            | false =>
              simp only [List.contains_eq_mem, decide_eq_false_iff_not]
              intro hm
              rw [hasB_mem.2 hm] at hb
              cases hb)
          have hN2 := Go.Lib.hid (show ∀ x ∈ H2, hasB N x = true from fun x hx => by
            have h1 : x.toList ∈ compact sl := by rw [hdH.out]; exact List.mem_map.2 ⟨x, hx, rfl⟩
            have h2 := (compact_mem _ _).1 h1
            rw [hSL.out, mem_sort, hD2.out, List.mem_flatMap] at h2
            obtain ⟨y, hy, hxy⟩ := h2
            obtain ⟨y, hyH, rfl⟩ := List.mem_map.1 hy
            obtain ⟨z, hz, hze⟩ := List.mem_map.1 hxy
            have h3 := HM.out.all _ (nxB_mem HM.out (hHN.out y hyH)) z hz
            rw [hasB_mem] at h3 ⊢
            rw [← hze]; exact h3)
          have hl16 := Go.Lib.hid (show H2.length ≤ 16 from by
            rw [← hlc.out]
            have h1 := compact_sorted sl (by rw [hSL.out]; exact sorted_ _)
            have h2 := nodup_le (compact sl) (dS N) (h1.imp (fun h => h.2)) (fun x hx => by
              rw [hdH.out] at hx
              obtain ⟨z, hz, rfl⟩ := List.mem_map.1 hx
              exact hasB_mem.1 (hN2.out z hz))
            rw [dS_length] at h2
            have := HM.out.n16
            omega)
          rw [hlc.out]
          clear ho4 hg4 hb4 hH2 hO3
          go_wp2_with fail
          refine (contains_calls H2 t A2 c2 w4 (by have := hl16.out; unfold LIM; omega) hRd.out hcap).mono ?_
          rintro e w5 ⟨rfl, hd5⟩
          have hb5 := Go.Lib.hid hd5.below
          have hB5 := Go.Lib.hid (hB.out.trans ((hB4.out.trans (hb5.out.mono hB4.out.size)).mono hB.out.size))
          have hRd5 := Go.Lib.hid (hRd.out.up hb5.out)
          clear hd5
          generalize hasB H2 t = hb at *
          cases hb with
          | true =>
            go_wp2_with fail
            go_ret
            exact ⟨by rw [← hP.out, hP2.out]; rfl, hB5.out⟩
          | false =>
            go_wp2_with fail
            go_roundg k
            case measure => exact Nat.lt_succ_self k
            case rel => exact ⟨j + 1, H2, A2, c2, Go.Lib.hid (by have := hj.out; omega), by go_num, rfl, Go.Lib.hid ⟨hRd5.out, hcap⟩, hl16, hN2, Go.Lib.hid (by rw [← hP.out, hP2.out]; rfl), hB5⟩
end Go.Proofs.Ytdobkkoonamocaa.Mo
