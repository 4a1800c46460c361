/- What the printed Cycles and lessStrings reckon. -/
import Derived.Test.YtdobkkoonamocaaCd
import Derived.Test.YtdobkkoonamocaaMg
namespace Go.Proofs.Ytdobkkoonamocaa.Mo
open Go.RowKit Go.Lib Go.Proofs.Ytdobkkoonamocaa.PModulesOrdered Go.Proofs.Ytdobkkoonamocaa.Cx Go.Proofs.YtdobkkoonamocaaW.PrintWords Go.Proofs.YtdobkkoonamocaaW.PrintLast Go.Proofs.YtdobkkoonamocaaW.PrintMore
set_option linter.unusedVariables false
set_option linter.unusedSimpArgs false
/-- The modules, few of them, each name once. -/
structure Few (N : List ByteArray) (I : List (List ByteArray)) : Prop where
  mods : Mods N I
  six : N.length ≤ 6
  once : dupB N = false
theorem few_of {N : List ByteArray} {I : List (List ByteArray)} (h : mErr N I = 0) (h6 : N.length ≤ 6) (hs : ∀ l ∈ I, l.length ≤ 1048576) : Few N I := ⟨mods_of h hs, h6, (err_zero h).2.2.1⟩
theorem nth_idx {N : List ByteArray} (h1 : dupB N = false) {s : ByteArray} (h : hasB N s = true) {i : Nat} (hi : i < N.length) : (sx N (i : Int)).toList = s.toList ↔ i = idxS N s.toList := by
  have hlt := idx_lt h
  have hat : (sx N ((idxS N s.toList : Nat) : Int)).toList = s.toList := by
    rw [sx_get hlt]
    have h2 := List.findIdx_getElem (w := hlt)
    exact of_decide_eq_true h2
  constructor
  · intro e
    exact inj_of h1 i _ hi hlt (by unfold nm; rw [e, hat])
  · rintro rfl
    exact hat
theorem has_f (l : List ByteArray) (s : ByteArray) (hl : l.length < LIM) {k : Nat} (hk : l.length < k) : provenanceref1_has.f k l s = some (hasB l s) := has_from l s hl l.length 0 k (by omega) hk
/-- The number of the last module. -/
theorem last_l0 (N : List ByteArray) (I : List (List ByteArray)) (hF : Few N I) (way : List ByteArray) (j : Nat) (hj : way.length = j + 1) (hj2 : j < 1000) (y : ByteArray) (hy : way[j]? = some y) (hyN : hasB N y = true) (k : Nat) :
    ∀ d i (acc : Int), i + d = N.length → provenanceref1_Cycles.l0 (d + (k + 1)) N I way acc (N.length : Int) (i : Int) = provenanceref1_Cycles.l0 (k + 1) N I way (if i ≤ idxS N y.toList then ((idxS N y.toList : Nat) : Int) else acc) (N.length : Int) (N.length : Int) := by
  have h6 := hF.six
  have hw : wrap64 ((way.length : Int) - 1) = (j : Int) := by unfold wrap64; omega
  have hyj : rdOf ByteArray.empty way (j : Int) = y := by
    unfold rdOf
    rw [Int.toNat_natCast, List.getD_eq_getElem?_getD, hy]
    rfl
  have hlt := idx_lt hyN
  intro d
  induction d with
  | zero =>
    intro i acc hi
    obtain rfl : i = N.length := by omega
    rw [if_neg (by omega), Nat.zero_add]
  | succ d ih =>
    intro i acc hi
    rw [show d + 1 + (k + 1) = (d + (k + 1)) + 1 by omega]
    rw [provenanceref1_Cycles.l0]
    rw [if_pos (by omega), if_pos (by omega), if_pos (by omega), hw, if_pos (by omega), if_pos (by omega), hyj, w64i i (by omega)]
    have hq := nth_idx hF.once hyN (i := i) (by omega)
    by_cases he : (sx N (i : Int)).toList = y.toList
    · have h1 := hq.1 he
      rw [if_pos he, ih (i + 1) _ (by omega), if_neg (by omega), if_pos (by omega), h1]
    · have h1 : i ≠ idxS N y.toList := fun e => he (hq.2 e)
      rw [if_neg he, ih (i + 1) _ (by omega)]
      by_cases h2 : i ≤ idxS N y.toList
      · rw [if_pos h2, if_pos (by omega)]
      · rw [if_neg h2, if_neg (by omega)]
theorem cont_hasB (l : List ByteArray) (s : ByteArray) : (dS l).contains s.toList = hasB l s := by
  cases hb : hasB l s with
  | true => simpa using hasB_mem.1 hb
  | false =>
    simp only [List.contains_eq_mem, decide_eq_false_iff_not]
    intro hm
    rw [hasB_mem.2 hm] at hb
    cases hb
/-- A bound for the number of cycles. -/
def bnd : Nat → Nat
  | 0 => 0
  | f + 1 => 1 + 6 * bnd f
def candB (N : List ByteArray) (I : List (List ByteArray)) (way : List Str) (s : ByteArray) : Bool := decide (hd way < s.toList) && (nxS N I (la way)).contains s.toList && !way.contains s.toList
theorem more_l1 (N : List ByteArray) (I : List (List ByteArray)) (hF : Few N I) (way : List ByteArray) (j : Nat) (hj : way.length = j + 1) (hj2 : j < 1000) (y z : ByteArray) (hy : way[j]? = some y) (hz : way[0]? = some z) (hyN : hasB N y = true)
    (G : ByteArray → List (List Str)) (b : Nat) (hb : b ≤ 100000)
    (hG : ∀ s, hasB N s = true → candB N I (dS way) s = true → ∃ K r, (∀ k, K ≤ k → provenanceref1_Cycles.f k N I (way ++ [s]) = some r) ∧ r.map dS = G s ∧ r.length ≤ b) :
    ∀ d i, i + d = N.length → ∃ K R, (∀ k, K ≤ k → ∀ acc : List (List ByteArray), acc.length + d * b ≤ 1000000 → provenanceref1_Cycles.l1 k N I way acc ((idxS N y.toList : Nat) : Int) N (N.length : Int) (i : Int) = some (acc ++ R)) ∧ R.map dS = (((N.drop i).filter (candB N I (dS way))).flatMap G) ∧ R.length ≤ d * b := by
  have h6 := hF.six
  have hlt := idx_lt hyN
  have hI := hF.mods.same
  have hz0 : rdOf ByteArray.empty way 0 = z := by
    unfold rdOf
    rw [List.getD_eq_getElem?_getD]
    show (way[(0 : Int).toNat]?).getD _ = z
    rw [show (0 : Int).toNat = 0 from rfl, hz]
    rfl
  have hsm : (rd_L1 I ((idxS N y.toList : Nat) : Int)).length ≤ 1048576 := hF.mods.small _ (nxB_mem hF.mods hyN)
  intro d
  induction d with
  | zero =>
    intro i hi
    refine ⟨1, [], fun k hk acc ha => ?_, by rw [List.drop_eq_nil_of_le (by omega)]; rfl, by simp⟩
    obtain ⟨k, rfl⟩ : ∃ m, k = m + 1 := ⟨k - 1, by omega⟩
    rw [provenanceref1_Cycles.l1, if_neg (by omega), List.append_nil]
  | succ d ih =>
    intro i hi
    obtain ⟨K1, R1, h1, h2, h3⟩ := ih (i + 1) (by omega)
    have hsb : (d + 1) * b = d * b + b := Nat.succ_mul _ _
    have hil : i < N.length := by omega
    have hsN : hasB N (sx N (i : Int)) = true := by
      rw [sx_get hil]
      exact hasB_mem.2 (List.mem_map.2 ⟨_, List.getElem_mem _, rfl⟩)
    have hdr := drop_sx hil
    have hlN : (rd_L1 I ((idxS N y.toList : Nat) : Int)).length < LIM := by unfold LIM; omega
    have hlW : way.length < LIM := by unfold LIM; omega
    have e1 : (nxS N I (la (dS way))).contains (sx N (i : Int)).toList = hasB (rd_L1 I ((idxS N y.toList : Nat) : Int)) (sx N (i : Int)) := by
      rw [la_dS hj hy]
      exact cont_hasB _ _
    have e2 : (dS way).contains (sx N (i : Int)).toList = hasB way (sx N (i : Int)) := cont_hasB _ _
    have e0 : decide (hd (dS way) < (sx N (i : Int)).toList) = Op.bytesLess z.toList (sx N (i : Int)).toList := by
      rw [hd_dS hz, Go.Proofs.bytesLess_eq]
    have ec : candB N I (dS way) (sx N (i : Int)) = (Op.bytesLess z.toList (sx N (i : Int)).toList && hasB (rd_L1 I ((idxS N y.toList : Nat) : Int)) (sx N (i : Int)) && !hasB way (sx N (i : Int))) := by
      unfold candB
      rw [e0, e1, e2]
    rw [hdr]
    cases hc : candB N I (dS way) (sx N (i : Int)) with
    | false =>
      refine ⟨K1 + 1048577 + way.length, R1, fun k hk acc ha => ?_, by rw [List.filter_cons, hc]; exact h2, by rw [Nat.succ_mul]; omega⟩
      obtain ⟨k, rfl⟩ : ∃ m, k = m + 1 := ⟨k - 1, by omega⟩
      have h1' := h1 k (by omega) acc (by omega)
      rw [provenanceref1_Cycles.l1]
      rw [if_pos (by omega), if_pos (by omega), if_pos (by omega), if_pos (by omega), hz0, w64i i (by omega)]
      rw [ec] at hc
      by_cases q1 : Op.bytesLess z.toList (sx N (i : Int)).toList = true
      · rw [if_pos q1, if_pos (by omega), if_pos (by omega), has_f _ _ hlN (by omega), Option.bind_some]
        by_cases q2 : hasB (rd_L1 I ((idxS N y.toList : Nat) : Int)) (sx N (i : Int)) = true
        · rw [if_pos q2, has_f _ _ hlW (by omega), Option.bind_some]
          rw [q1, q2] at hc
          have q3 : hasB way (sx N (i : Int)) = true := by simpa using hc
          rw [if_pos q3]
          exact h1'
        · rw [if_neg q2]
          exact h1'
      · rw [if_neg q1]
        exact h1'
    | true =>
      obtain ⟨K2, r, g1, g2, g3⟩ := hG _ hsN hc
      have hRl : R1.length ≤ 600000 := Nat.le_trans h3 (Nat.le_trans (Nat.mul_le_mul (show d ≤ 6 by omega) hb) (by decide))
      refine ⟨K1 + K2 + 1048577 + way.length, r ++ R1, fun k hk acc ha => ?_, by rw [List.filter_cons, hc, List.map_append, g2, h2]; rfl, by rw [List.length_append, Nat.succ_mul]; omega⟩
      obtain ⟨k, rfl⟩ : ∃ m, k = m + 1 := ⟨k - 1, by omega⟩
      have h1' := h1 k (by omega) (acc ++ r) (by rw [List.length_append]; omega)
      have g1' := g1 k (by omega)
      rw [provenanceref1_Cycles.l1]
      rw [if_pos (by omega), if_pos (by omega), if_pos (by omega), if_pos (by omega), hz0, w64i i (by omega)]
      rw [ec] at hc
      simp only [Bool.and_eq_true, Bool.not_eq_true'] at hc
      obtain ⟨⟨q1, q2⟩, q3⟩ := hc
      rw [if_pos q1, if_pos (by omega), if_pos (by omega), has_f _ _ hlN (by omega), Option.bind_some, if_pos q2, has_f _ _ hlW (by omega), Option.bind_some, if_neg (by rw [q3]; decide)]
      simp only [Option.bind_some, List.nil_append, List.length_nil, Nat.zero_add]
      rw [if_pos (by omega), if_pos (by omega), g1', Option.bind_some, if_pos (by omega), h1', List.append_assoc]
theorem bnd_le : ∀ f, f ≤ 6 → bnd f ≤ 10000
  | 0, _ => by decide
  | 1, _ => by decide
  | 2, _ => by decide
  | 3, _ => by decide
  | 4, _ => by decide
  | 5, _ => by decide
  | 6, _ => by decide
  | f + 7, h => by omega
theorem cyc_f (N : List ByteArray) (I : List (List ByteArray)) (hF : Few N I) : ∀ f, f ≤ 6 → ∀ (way : List ByteArray), way ≠ [] → (dS way).Nodup → (∀ x ∈ way, hasB N x = true) → N.length + 1 ≤ way.length + f →
    ∃ K r, (∀ k, K ≤ k → provenanceref1_Cycles.f k N I way = some r) ∧ r.map dS = cycL (nxS N I) (dS N) f (dS way) ∧ r.length ≤ bnd f := by
  have h6 := hF.six
  have hI := hF.mods.same
  intro f
  induction f with
  | zero =>
    intro _ way hne hnd hw hl
    have h := nodup_le (dS way) (dS N) hnd (fun x hx => by
      obtain ⟨q, hq, rfl⟩ := List.mem_map.1 hx
      exact hasB_mem.1 (hw q hq))
    rw [dS_length, dS_length] at h
    omega
  | succ f ih =>
    intro hf6 way hne hnd hw hl
    have hwl := nodup_le (dS way) (dS N) hnd (fun x hx => by
      obtain ⟨q, hq, rfl⟩ := List.mem_map.1 hx
      exact hasB_mem.1 (hw q hq))
    rw [dS_length, dS_length] at hwl
    obtain ⟨j, hj⟩ : ∃ j, way.length = j + 1 := ⟨way.length - 1, by have := List.length_pos_iff.2 hne; omega⟩
    obtain ⟨y, hy⟩ : ∃ y, way[j]? = some y := ⟨_, List.getElem?_eq_getElem (by omega)⟩
    obtain ⟨z, hz⟩ : ∃ z, way[0]? = some z := ⟨_, List.getElem?_eq_getElem (by omega)⟩
    have hyN := hw y (List.mem_of_getElem? hy)
    have hlt := idx_lt hyN
    have hsm : (rd_L1 I ((idxS N y.toList : Nat) : Int)).length ≤ 1048576 := hF.mods.small _ (nxB_mem hF.mods hyN)
    have hz0 : rdOf ByteArray.empty way 0 = z := by
      unfold rdOf
      rw [List.getD_eq_getElem?_getD, show (0 : Int).toNat = 0 from rfl, hz]
      rfl
    obtain ⟨K, R, h1, h2, h3⟩ := more_l1 N I hF way j hj (by omega) y z hy hz hyN (fun s => cycL (nxS N I) (dS N) f (dS way ++ [s.toList])) (bnd f) (Nat.le_trans (bnd_le f (by omega)) (by decide))
      (fun s hsN hc => by
        unfold candB at hc
        simp only [Bool.and_eq_true, Bool.not_eq_true', List.contains_eq_mem, decide_eq_false_iff_not] at hc
        obtain ⟨K, r, g1, g2, g3⟩ := ih (by omega) (way ++ [s]) (by simp) (by
            rw [dS_app, List.nodup_append]
            refine ⟨hnd, by simp [dS], fun a ha b hb => ?_⟩
            have hb2 : b = s.toList := by simpa [dS] using hb
            rw [hb2]
            exact fun e => hc.2 (by rw [← e]; exact ha)) (fun x hx => by
            rcases List.mem_append.1 hx with h | h
            · exact hw x h
            · rw [List.mem_singleton.1 h]; exact hsN) (by rw [List.length_append]; simp; omega)
        exact ⟨K, r, g1, by rw [g2, dS_app]; rfl, g3⟩)
      N.length 0 (by omega)
    rw [List.drop_zero] at h2
    have hbf := bnd_le f (by omega)
    have hRl : R.length ≤ 60000 := Nat.le_trans h3 (Nat.le_trans (Nat.mul_le_mul h6 hbf) (by decide))
    have hnb : N.length * bnd f ≤ 60000 := Nat.le_trans (Nat.mul_le_mul h6 hbf) (by decide)
    have hcy : cycL (nxS N I) (dS N) (f + 1) (dS way) = (if (nxS N I (la (dS way))).contains (hd (dS way)) then [dS way] else []) ++ ((N.filter (candB N I (dS way))).flatMap fun s => cycL (nxS N I) (dS N) f (dS way ++ [s.toList])) := by
      rw [cycL]
      congr 1
      have e : (dS N).filter (fun s => decide (hd (dS way) < s) && (nxS N I (la (dS way))).contains s && !(dS way).contains s) = (N.filter (candB N I (dS way))).map ByteArray.toList := by
        unfold dS
        rw [List.filter_map]
        rfl
      rw [e, List.flatMap_map]
    have hct : (nxS N I (la (dS way))).contains (hd (dS way)) = hasB (rd_L1 I ((idxS N y.toList : Nat) : Int)) z := by
      rw [la_dS hj hy, hd_dS hz]
      exact cont_hasB _ _
    rw [hct] at hcy
    refine ⟨K + 1048590 + N.length, (if hasB (rd_L1 I ((idxS N y.toList : Nat) : Int)) z then [way] else []) ++ R, fun k hk => ?_, ?_, ?_⟩
    · obtain ⟨k, rfl⟩ : ∃ m, k = (N.length + ((m + 1) + 1)) + 1 := ⟨k - N.length - 3, by omega⟩
      rw [provenanceref1_Cycles.f]
      have hL := last_l0 N I hF way j hj (by omega) y hy hyN (k + 1) N.length 0 0 (by omega)
      rw [if_pos (Nat.zero_le _)] at hL
      rw [show (((0 : Nat)) : Int) = 0 from rfl] at hL
      rw [hL, provenanceref1_Cycles.l0, if_neg (by omega), if_pos (by omega), if_pos (by omega), if_pos (by omega), hz0, has_f _ _ (by unfold LIM; omega) (by omega), Option.bind_some]
      have hl1 := h1 k (by omega)
      by_cases q : hasB (rd_L1 I ((idxS N y.toList : Nat) : Int)) z = true
      · rw [if_pos q, if_pos q]
        simp only [Option.bind_some, List.nil_append, List.length_nil, Nat.zero_add]
        rw [if_pos (by omega), if_pos (by omega), provenanceref1_Cycles.j1]
        exact hl1 [way] (by simp; omega)
      · rw [if_neg q, if_neg q, provenanceref1_Cycles.j1]
        exact hl1 [] (by simp; omega)
    · rw [hcy, List.map_append, h2]
      congr 1
      split <;> rfl
    · rw [List.length_append, bnd]
      have h9 : N.length * bnd f ≤ 6 * bnd f := Nat.mul_le_mul_right _ h6
      split <;> simp <;> omega
/-- lessStrings. -/
theorem less_from (a b : List ByteArray) (hl : a.length = b.length) (hs : a.length < 1000) : ∀ d i, i + d = a.length → provenanceref1_lessStrings.l0 (d + 1) a b (a.length : Int) (i : Int) = some (lessL (dS (a.drop i)) (dS (b.drop i))) := by
  intro d
  induction d with
  | zero =>
    intro i hi
    rw [provenanceref1_lessStrings.l0, if_neg (by omega), List.drop_eq_nil_of_le (by omega)]
    rfl
  | succ d ih =>
    intro i hi
    rw [provenanceref1_lessStrings.l0, if_pos (by omega), if_pos (by omega), if_pos (by omega), if_pos (by omega), w64i i (by omega), ih (i + 1) (by omega)]
    have h1 := drop_sx (l := a) (i := i) (by omega)
    have h2 := drop_sx (l := b) (i := i) (by omega)
    rw [h1, h2]
    show _ = some (if (sx a (i : Int)).toList = (sx b (i : Int)).toList then _ else _)
    by_cases he : (sx a (i : Int)).toList = (sx b (i : Int)).toList
    · rw [if_pos he, if_pos he]; rfl
    · rw [if_neg he, if_neg he, Go.Proofs.bytesLess_eq]
theorem less_f (a b : List ByteArray) (hl : a.length = b.length) (hs : a.length < 1000) : provenanceref1_lessStrings.f (a.length + 1) a b = some (lessL (dS a) (dS b)) := by
  unfold provenanceref1_lessStrings.f
  have h := less_from a b hl hs a.length 0 (by omega)
  rw [List.drop_zero, List.drop_zero] at h
  exact h
end Go.Proofs.Ytdobkkoonamocaa.Mo
