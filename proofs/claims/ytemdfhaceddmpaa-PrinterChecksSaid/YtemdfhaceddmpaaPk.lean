import Derived.Test.YtemdfhaceddmpaaPj
namespace Go.Proofs.Ytemdfhaceddmpaa.Tr
open Go.Shelf Go.RowKit Go.Proofs.Ytemdfhaceddmpaa.PPrinterTells Go.Proofs.YtemdfhaceddmpaaW.PrintWords Go.Proofs.YtemdfhaceddmpaaW.PrintLast Go.Proofs.YtemdfhaceddmpaaW.PrintMore
set_option linter.unusedVariables false
set_option linter.unusedSimpArgs false

set_option maxHeartbeats 2000000 in
set_option maxRecDepth 100000 in
/-- slices.IndexFunc at a predicate that only reads. -/
theorem indexf_calls (ks : List Int) (A : Option Addr) (c g1 g2 : Nat) (p : Int → Bool) (w : World) (hr : Kd.C (Kd.int .i64) w A ks.length ks)
    (hp : ∀ x ∈ ks, ∀ m, Calls Try.prog 20 #[.int .i64 x, .pointer (some ⟨g1, 0, none⟩), .pointer (some ⟨g2, 0, none⟩)] (w.drewN m) fun e w' => e = .returned (.bool (p x)) ∧ ∃ n, w' = (w.drewN m).drewN n) :
    Calls Try.prog 33 #[.slice A ks.length c, .func (.func 20) #[] #[.pointer (some ⟨g1, 0, none⟩), .pointer (some ⟨g2, 0, none⟩)]] w fun e w' => (∃ r : Int, e = .returned (.int .i64 r) ∧ decide (0 ≤ r) = ks.any p) ∧ ∃ n, w' = w.drewN n := by
  have HR := Go.Lib.hid hr
  have HP := Go.Lib.hid hp
  have hl9 : (ks.length : Int) ≤ 9223372036854775807 := by have := hr.2.1; omega
  obtain ⟨rv, hrv⟩ : ∃ rv, rv = ks.any p := ⟨_, rfl⟩
  have HRV := Go.Lib.hid hrv
  rw [← hrv]
  clear hr hp hrv
  go_enter Try.func33, Try.ntmps33
  go_wp2_with fail
  go_loopg [8] ks.length (fun g_ v8 w' => ∃ (j m : Nat), Hid (j + g_ = ks.length) ∧ v8 = .int .i64 j ∧ Hid ((ks.take j).any p = false) ∧ w' = w.drewN m)
  case atStart => exact ⟨0, 0, Go.Lib.hid (by omega), rfl, Go.Lib.hid (by simp), rfl⟩
  case round =>
    obtain ⟨j, m, hj, rfl, hn, rfl⟩ := hrel
    by_cases hlt : j < ks.length
    · have hlt' : (j : Int) < (ks.length : Int) := by omega
      have hj0 : (0 : Int) ≤ (j : Int) := by omega
      obtain ⟨ad, e_, q0⟩ := Kd.at_int HR.out (j : Int) hj0 hlt'
      subst e_
      rw [rd_nat _ j hlt, Int.toNat_natCast] at q0
      have HY := Go.Lib.hid (HP.out ks[j] (List.getElem_mem hlt))
      have HTK := Go.Lib.hid (show (ks.take (j + 1)).any p = p ks[j] by rw [List.take_succ_eq_append_getElem hlt, List.any_append, hn.out]; simp)
      have HAL := Go.Lib.hid (show p ks[j] = true → ks.any p = true from fun h => List.any_eq_true.2 ⟨_, List.getElem_mem hlt, h⟩)
      have HLT := Go.Lib.hid hlt
      generalize ks[j] = y at q0 HY HTK HAL
      clear hlt
      generalize p y = bx at HY HTK HAL
      cases bx
      · go_wp2_with fail
        refine (HY.out m).mono ?_
        rintro e w3 ⟨rfl, n, rfl⟩
        go_wp2_with fail
        go_roundg (gk - 1)
        case measure => have := hj.out; have := HLT.out; omega
        case rel => exact ⟨j + 1, m + n, Go.Lib.hid (by have := hj.out; have := HLT.out; omega), by go_num, HTK, by first | rfl | rw [World.drewN_drewN]⟩
      · have HV := Go.Lib.hid (show rv = true by rw [HRV.out]; exact HAL.out rfl)
        go_wp2_with fail
        refine (HY.out m).mono ?_
        rintro e w3 ⟨rfl, n, rfl⟩
        go_wp2_with fail
        go_ret
        exact ⟨⟨j, rfl, by rw [HV.out]; exact decide_eq_true (by omega)⟩, _, rfl⟩
    · have hd : decide ((j : Int) < (ks.length : Int)) = false := decide_eq_false (by omega)
      have hd2 : decide (j < ks.length) = false := decide_eq_false hlt
      have hd3 : ¬ (j : Int) < (ks.length : Int) := by omega
      have HV := Go.Lib.hid (show rv = false by have h := hn.out; rw [List.take_of_length_le (by omega)] at h; rw [HRV.out, h])
      clear hlt
      go_wp2_with fail
      go_ret
      exact ⟨⟨-1, rfl, by rw [HV.out]; decide⟩, _, rfl⟩
set_option maxHeartbeats 2000000 in
theorem containsf_calls (ks : List Int) (A : Option Addr) (c g1 g2 : Nat) (p : Int → Bool) (w : World) (hr : Kd.C (Kd.int .i64) w A ks.length ks)
    (hp : ∀ x ∈ ks, ∀ m, Calls Try.prog 20 #[.int .i64 x, .pointer (some ⟨g1, 0, none⟩), .pointer (some ⟨g2, 0, none⟩)] (w.drewN m) fun e w' => e = .returned (.bool (p x)) ∧ ∃ n, w' = (w.drewN m).drewN n) :
    Calls Try.prog 19 #[.slice A ks.length c, .func (.func 20) #[] #[.pointer (some ⟨g1, 0, none⟩), .pointer (some ⟨g2, 0, none⟩)]] w fun e w' => e = .returned (.bool (ks.any p)) ∧ ∃ n, w' = w.drewN n := by
  have HI := Go.Lib.hid (indexf_calls ks A c g1 g2 p w hr hp)
  generalize ks.any p = rv at *
  clear hr hp
  go_enter Try.func19, Try.ntmps19
  go_wp2_with fail
  refine HI.out.mono ?_
  rintro e w1 ⟨⟨r, rfl, hrr⟩, n, rfl⟩
  clear HI
  go_wp2_with fail
  go_ret
  exact ⟨rfl, _, rfl⟩

set_option maxHeartbeats 2000000 in
set_option maxRecDepth 100000 in
/-- fields. -/
theorem fieldsf_calls (t : List S27) (x : S27) (ad : Addr) (c0 c3 : Nat) (A3 : Option Addr) (w : World) (hr : Kd.C k27 w (some ad) t.length t) (hC : Kd.C (Kd.int .i64) w A3 x.f3.length x.f3) (hk : ∀ k ∈ x.f3, 0 ≤ k ∧ k < (t.length : Int))
    (hf : ∀ k ∈ x.f3, kd t k = 19 → (rd_T27 t k).f3 ≠ [] ∧ ∀ y ∈ (rd_T27 t k).f3, 0 ≤ y ∧ y < (t.length : Int)) :
    Calls Try.prog 10 #[.slice (some ad) t.length c0, .agg #[.int .i64 x.f0, .string x.f1, .int .i64 x.f2, .slice A3 x.f3.length c3, .int .i64 x.f4, .int .i64 x.f5]] w fun e w' => e = .returned (.bool (!x.f3.any (pfB t x.f0))) ∧ Below w.heap.size w w' := by
  have HB := Go.Lib.hid (below_alloc (below_alloc (Below.refl w.heap.size w) (.cells #[.slice (some ad) t.length c0] 22)) (.cells #[.int .i64 x.f0, .string x.f1, .int .i64 x.f2, .slice A3 x.f3.length c3, .int .i64 x.f4, .int .i64 x.f5] 27))
  have HCF := Go.Lib.hid (containsf_calls x.f3 A3 c3 w.heap.size (w.heap.size + 1) (pfB t x.f0) ((w.alloc (.cells #[.slice (some ad) t.length c0] 22)).alloc (.cells #[.int .i64 x.f0, .string x.f1, .int .i64 x.f2, .slice A3 x.f3.length c3, .int .i64 x.f4, .int .i64 x.f5] 27)) (Kd.C_below hC HB.out) (fun y hy m => by
    obtain ⟨yn, rfl⟩ : ∃ yn : Nat, y = yn := ⟨y.toNat, by have := (hk y hy).1; omega⟩
    have hb1 : ((w.alloc (.cells #[.slice (some ad) t.length c0] 22)).alloc (.cells #[.int .i64 x.f0, .string x.f1, .int .i64 x.f2, .slice A3 x.f3.length c3, .int .i64 x.f4, .int .i64 x.f5] 27)).heap[w.heap.size]? = some (.cells #[.slice (some ad) t.length c0] 22 (0, 0)) := blk_alloc (blk_new _ _) _
    have hb2 : ((w.alloc (.cells #[.slice (some ad) t.length c0] 22)).alloc (.cells #[.int .i64 x.f0, .string x.f1, .int .i64 x.f2, .slice A3 x.f3.length c3, .int .i64 x.f4, .int .i64 x.f5] 27)).heap[w.heap.size + 1]? = some (.cells #[.int .i64 x.f0, .string x.f1, .int .i64 x.f2, .slice A3 x.f3.length c3, .int .i64 x.f4, .int .i64 x.f5] 27 (0, 0)) := blk_newE (by simp)
    exact fields1_calls t x.f0 yn ad c0 w.heap.size (w.heap.size + 1) _ (Kd.C_below hr (pw_below_drewN HB.out m)) (by have := (hk _ hy).2; omega) ((blk_cell (blk_drewN hb1 m) 0).trans rfl) ((blk_cell (blk_drewN hb2 m) 0).trans rfl) (hf _ hy)))
  generalize x.f3.any (pfB t x.f0) = rv at *
  clear hr hC hk hf
  go_enter Try.func10, Try.ntmps10
  go_wp2_with fail
  refine HCF.out.mono ?_
  rintro e w1 ⟨rfl, n, rfl⟩
  have HB2 := Go.Lib.hid (pw_below_drewN HB.out n)
  clear HCF
  go_wp2_with fail
  go_ret
  exact ⟨rfl, HB2.out⟩
end Go.Proofs.Ytemdfhaceddmpaa.Tr
