import Derived.Test.YtemdfhaceddmpaaPi
namespace Go.Proofs.Ytemdfhaceddmpaa.Tr
open Go.Shelf Go.RowKit Go.Proofs.Ytemdfhaceddmpaa.PPrinterTells Go.Proofs.YtemdfhaceddmpaaW.PrintWords Go.Proofs.YtemdfhaceddmpaaW.PrintLast Go.Proofs.YtemdfhaceddmpaaW.PrintMore
set_option linter.unusedVariables false
set_option linter.unusedSimpArgs false
theorem fits_calls (k : Int) (l : List Int) (A : Option Addr) (c : Nat) (w : World) (h0 : 0 ≤ k) (h1 : k ≤ 38) (hr : Kd.C (Kd.int .i64) w A l.length l) (hl : l.length ≤ 17592186044416) :
    Calls Try.prog 9 #[.int .i64 k, .slice A l.length c] w fun e w' => e = .returned (.bool (shpB k l)) ∧ Below w.heap.size w w' := by
  by_cases h2 : k = 24
  · subst h2; exact fits_24 l A c w hr hl
  · by_cases h3 : k ∈ ([5, 9, 10, 17, 18] : List Int)
    · exact fits_grp k l A c w h3 hr hl
    · exact fits_shp k l A c w h0 h1 h2 h3 hr hl
theorem F_mem : ∀ (its : List (UInt8 × UInt8)) (l : List Int), F its l = true → ∀ x ∈ l, ∃ p ∈ its, inK (p.1.toNat : Nat) x = true
  | [], l, h, x, hx => by
    have : l = [] := by simpa [F] using h
    rw [this] at hx; cases hx
  | (c, m) :: r, l, h, x, hx => by
    obtain ⟨a, t, rfl, h2, -, h4⟩ := (F_item c m r l).1 h
    rcases List.mem_append.1 hx with hx | hx
    · exact ⟨(c, m), by simp, h2 x hx⟩
    · obtain ⟨p, hp, h5⟩ := F_mem r t h4 x hx
      exact ⟨p, by simp [hp], h5⟩
theorem altP_mem {l : List Int} (h : altP l = true) : ∀ x ∈ l, x = 3 ∨ x ∈ kinds 69 := by
  intro x hx
  unfold altP at h
  obtain ⟨i, hi, rfl⟩ := List.mem_iff_getElem.1 hx
  have h2 := List.all_eq_true.1 h (l[i], i) (List.mem_zipIdx_iff_getElem?.2 (by simp [hi]))
  unfold altAt at h2
  dsimp only at h2
  split at h2
  · exact Or.inl (of_decide_eq_true h2)
  · exact Or.inr (of_decide_eq_true h2)
theorem no19 (k : Int) (h0 : 0 ≤ k) (h1 : k ≤ 38) (h2 : ¬ k = 17) (h3 : ¬ k = 29) (l : List Int) (h : shpB k l = true) : (19 : Int) ∉ l := by
  intro hx
  by_cases h24 : k = 24
  · rw [shpB, if_pos h24] at h
    simp only [Bool.and_eq_true] at h
    rcases altP_mem h.2 19 hx with h | h
    · exact absurd h (by decide)
    · exact absurd h (by decide)
  · have hl : ∀ its, itemsOf k = its → (its.all fun p => decide ((19 : Int) ∉ kinds (p.1.toNat : Nat))) = true → False := by
      intro its hi ha
      have hb := (text_ok k).2.2.1
      rw [hi] at hb
      rw [shpB_F k its hi h24 hb] at h
      obtain ⟨p, hp, h5⟩ := F_mem its l h 19 hx
      exact absurd (of_decide_eq_true h5) (of_decide_eq_true (List.all_eq_true.1 ha p hp))
    have hk : k = 0 ∨ k = 1 ∨ k = 2 ∨ k = 3 ∨ k = 4 ∨ k = 5 ∨ k = 6 ∨ k = 7 ∨ k = 8 ∨ k = 9 ∨ k = 10 ∨ k = 11 ∨ k = 12 ∨ k = 13 ∨ k = 14 ∨ k = 15 ∨ k = 16 ∨ k = 18 ∨ k = 19 ∨ k = 20 ∨ k = 21 ∨ k = 22 ∨ k = 23 ∨ k = 25 ∨ k = 26 ∨ k = 27 ∨ k = 28 ∨ k = 30 ∨ k = 31 ∨ k = 32 ∨ k = 33 ∨ k = 34 ∨ k = 35 ∨ k = 36 ∨ k = 37 ∨ k = 38 := by omega
    rcases hk with rfl | rfl | rfl | rfl | rfl | rfl | rfl | rfl | rfl | rfl | rfl | rfl | rfl | rfl | rfl | rfl | rfl | rfl | rfl | rfl | rfl | rfl | rfl | rfl | rfl | rfl | rfl | rfl | rfl | rfl | rfl | rfl | rfl | rfl | rfl | rfl
    all_goals first
      | exact hl _ items_0 (by decide)
      | exact hl _ items_1 (by decide)
      | exact hl _ items_2 (by decide)
      | exact hl _ items_3 (by decide)
      | exact hl _ items_4 (by decide)
      | exact hl _ items_5 (by decide)
      | exact hl _ items_6 (by decide)
      | exact hl _ items_7 (by decide)
      | exact hl _ items_8 (by decide)
      | exact hl _ items_9 (by decide)
      | exact hl _ items_10 (by decide)
      | exact hl _ items_11 (by decide)
      | exact hl _ items_12 (by decide)
      | exact hl _ items_13 (by decide)
      | exact hl _ items_14 (by decide)
      | exact hl _ items_15 (by decide)
      | exact hl _ items_16 (by decide)
      | exact hl _ items_18 (by decide)
      | exact hl _ items_19 (by decide)
      | exact hl _ items_20 (by decide)
      | exact hl _ items_21 (by decide)
      | exact hl _ items_22 (by decide)
      | exact hl _ items_23 (by decide)
      | exact hl _ items_25 (by decide)
      | exact hl _ items_26 (by decide)
      | exact hl _ items_27 (by decide)
      | exact hl _ items_28 (by decide)
      | exact hl _ items_30 (by decide)
      | exact hl _ items_31 (by decide)
      | exact hl _ items_32 (by decide)
      | exact hl _ items_33 (by decide)
      | exact hl _ items_34 (by decide)
      | exact hl _ items_35 (by decide)
      | exact hl _ items_36 (by decide)
      | exact hl _ items_37 (by decide)
      | exact hl _ items_38 (by decide)
/-- A record's field with a kid of the wrong sort. -/
def pfB (t : List S27) (nk : Int) (k : Int) : Bool := decide (kd t k = 19) && (inK 84 (kd t (rd (rd_T27 t k).f3 0)) != decide (nk = 17))
theorem T_or_E (x : Int) (h : inK 88 x = true) : inK 84 x = !inK 69 x := by
  have h2 : x ∈ kinds 88 := of_decide_eq_true h
  have h3 : (kinds 88).all (fun x => inK 84 x == !inK 69 x) = true := by decide
  exact beq_iff_eq.1 (List.all_eq_true.1 h3 x h2)
/-- Where the shape is right, both tests on fields agree. -/
theorem fields_eq (t : List S27) (n : S27) (h0 : 0 ≤ n.f0) (h1 : n.f0 ≤ 38) (hs : shpB n.f0 (n.f3.map (kd t)) = true) (hx : ∀ k ∈ n.f3, kd t k = 19 → inK 88 (kd t (rd (rd_T27 t k).f3 0)) = true) : n.f3.any (pfB t n.f0) = n.f3.any (fldBad t n.f0) := by
  by_cases h17 : n.f0 = 17
  · have e : ∀ k ∈ n.f3, pfB t n.f0 k = fldBad t n.f0 k := fun k hk => by
      unfold pfB fldBad inK
      rw [h17]
      simp
    rw [Bool.eq_iff_iff, List.any_eq_true, List.any_eq_true]
    exact ⟨fun ⟨k, hk, h⟩ => ⟨k, hk, by rw [← e k hk]; exact h⟩, fun ⟨k, hk, h⟩ => ⟨k, hk, by rw [e k hk]; exact h⟩⟩
  by_cases h29 : n.f0 = 29
  · have e : ∀ k ∈ n.f3, pfB t n.f0 k = fldBad t n.f0 k := fun k hk => by
      unfold pfB fldBad
      by_cases h19 : kd t k = 19
      · rw [T_or_E _ (hx k hk h19), h29]
        unfold inK
        simp
      · rw [decide_eq_false h19]; rfl
    rw [Bool.eq_iff_iff, List.any_eq_true, List.any_eq_true]
    exact ⟨fun ⟨k, hk, h⟩ => ⟨k, hk, by rw [← e k hk]; exact h⟩, fun ⟨k, hk, h⟩ => ⟨k, hk, by rw [e k hk]; exact h⟩⟩
  · have hn := no19 n.f0 h0 h1 h17 h29 _ hs
    have h19 : ∀ k ∈ n.f3, ¬ kd t k = 19 := fun k hk e => hn (by rw [← e]; exact List.mem_map.2 ⟨k, hk, rfl⟩)
    have e1 : n.f3.any (pfB t n.f0) = false := by
      rw [List.any_eq_false]
      intro k hk
      unfold pfB
      rw [decide_eq_false (h19 k hk)]; simp
    have e2 : n.f3.any (fldBad t n.f0) = false := by
      rw [List.any_eq_false]
      intro k hk
      unfold fldBad
      rw [decide_eq_false (h19 k hk)]; simp
    rw [e1, e2]

set_option maxHeartbeats 2000000 in
set_option maxRecDepth 100000 in
/-- fields' closure. -/
theorem fields1_calls (t : List S27) (nk : Int) (k : Nat) (ad : Addr) (c0 gT gN : Nat) (w : World) (hr : Kd.C k27 w (some ad) t.length t) (hk : k < t.length) (ht : w.cell? ⟨gT, 0, none⟩ = some (.slice (some ad) t.length c0)) (hn : w.cell? ⟨gN, 0, none⟩ = some (.int .i64 nk))
    (hf : kd t k = 19 → (rd_T27 t (k : Int)).f3 ≠ [] ∧ ∀ x ∈ (rd_T27 t (k : Int)).f3, 0 ≤ x ∧ x < (t.length : Int)) :
    Calls Try.prog 20 #[.int .i64 (k : Int), .pointer (some ⟨gT, 0, none⟩), .pointer (some ⟨gN, 0, none⟩)] w fun e w' => e = .returned (.bool (pfB t nk k)) ∧ ∃ n, w' = w.drewN n := by
  obtain ⟨rv, hrv⟩ : ∃ rv, rv = pfB t nk k := ⟨_, rfl⟩
  rw [← hrv]
  have htl : (t.length : Int) ≤ 9223372036854775807 := by have := hr.2.1; omega
  have hk0 : (0 : Int) ≤ (k : Int) := by omega
  have hk1 : (k : Int) < (t.length : Int) := by omega
  obtain ⟨ad', A3, c3, e_, r0, -, -, r3, -, -, l3, g3⟩ := at_T27 hr (k : Int) hk0 hk1
  cases e_
  rw [Int.toNat_natCast] at r0 r3
  have HRV := Go.Lib.hid (show rv = (decide ((rd_T27 t (k : Int)).f0 = 19) && (inK 84 (kd t (rd (rd_T27 t (k : Int)).f3 0)) != decide (nk = 17))) from hrv)
  have hf' : (rd_T27 t (k : Int)).f0 = 19 → (rd_T27 t (k : Int)).f3 ≠ [] ∧ ∀ x ∈ (rd_T27 t (k : Int)).f3, 0 ≤ x ∧ x < (t.length : Int) := hf
  generalize rd_T27 t (k : Int) = cN at r0 r3 l3 g3 HRV hf'
  clear hf hrv
  by_cases h19 : cN.f0 = 19
  · have m1 : (cN.f0 == 19) = true := beq_iff_eq.2 h19
    obtain ⟨hne, hin⟩ := hf' h19
    obtain ⟨z, zs, hz⟩ : ∃ z zs, cN.f3 = z :: zs := by
      cases h : cN.f3 with
      | nil => exact absurd h hne
      | cons z zs => exact ⟨z, zs, rfl⟩
    have hz1 := hin z (by rw [hz]; simp)
    have hln : (0 : Int) < (cN.f3.length : Int) := by rw [hz, List.length_cons]; omega
    have hln2 : 0 < cN.f3.length := by omega
    obtain ⟨adz, e_, z0⟩ := Kd.at_int g3 0 (by omega) hln
    subst e_
    replace z0 : w.cell? adz = some (.int .i64 z) := by
      rw [hz] at z0
      simpa [Addr.add, rd] using z0
    obtain ⟨zn, rfl⟩ : ∃ zn : Nat, z = zn := ⟨z.toNat, by omega⟩
    have hz2 : (0 : Int) ≤ (zn : Int) := by omega
    have hz3 : (zn : Int) < (t.length : Int) := hz1.2
    obtain ⟨adt, _, _, e_, t0, -, -, -, -, -, -, -⟩ := at_T27 hr (zn : Int) hz2 hz3
    cases e_
    rw [Int.toNat_natCast] at t0
    have HKZ := Go.Lib.hid (show kd t (zn : Int) = (rd_T27 t (zn : Int)).f0 from rfl)
    generalize (rd_T27 t (zn : Int)).f0 = kz at t0 HKZ
    have HV := Go.Lib.hid (show rv = (inK 84 kz != decide (nk = 17)) by rw [HRV.out, h19, hz, show rd ((zn : Int) :: zs) 0 = zn from rfl, HKZ.out]; simp)
    have HIT := Go.Lib.hid (show ∀ m, Calls Try.prog 21 #[.int .i64 kz] (w.drewN m) (fun e w' => e = .returned (.bool (inK 84 kz)) ∧ w' = w.drewN m) from fun m => isType_calls kz (w.drewN m))
    obtain ⟨q17, hq17⟩ : ∃ q, decide (nk = 17) = q := ⟨_, rfl⟩
    have m2 : (nk == 17) = q17 := hq17
    rw [hq17] at HV
    clear h19 hz hin hne hf' HRV hr hq17 l3 g3
    generalize inK 84 kz = bx at HV HIT
    cases bx
    all_goals cases q17
    all_goals
      go_enter Try.func20, Try.ntmps20
      go_wp2_with fail
      go_quiet ((exact Calls.quiet_of_same (HIT.out _)))
      go_wp2_with fail
      go_ret
      exact ⟨by rw [HV.out]; rfl, _, rfl⟩
  · have m1 : (cN.f0 == 19) = false := beq_eq_false_iff_ne.2 h19
    have HV := Go.Lib.hid (show rv = false by rw [HRV.out, decide_eq_false h19]; rfl)
    clear h19 HRV hf' hr l3 g3
    go_enter Try.func20, Try.ntmps20
    go_wp2_with fail
    go_quiet (fail)
    go_wp2_with fail
    go_ret
    exact ⟨by rw [HV.out]; rfl, _, rfl⟩
end Go.Proofs.Ytemdfhaceddmpaa.Tr
