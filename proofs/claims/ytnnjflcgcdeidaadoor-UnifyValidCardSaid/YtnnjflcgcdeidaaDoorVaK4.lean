import Derived.Test.YtnnjflcgcdeidaaDoorVaA
namespace Go.Proofs.YtnnjflcgcdeidaaDoor.Va
open Go.RowKit Go.Proofs.YtnnjflcgcdeidaaDoor.PUnifyValid Go.Proofs.YtnnjflcgcdeidaaDoorW.PrintWords Go.Proofs.YtnnjflcgcdeidaaDoorW.PrintLast Go.Proofs.YtnnjflcgcdeidaaDoorW.PrintMore
set_option linter.unusedSimpArgs false
set_option linter.unusedVariables false

set_option maxHeartbeats 8000000 in
set_option maxRecDepth 100000 in
theorem chk_k4 (G : S24 → Bool → Int → Int → Int × Int) (V : Int) (N : ByteArray) (L : List S24) (hX : ∀ y ∈ L, Chk y (G y) ∧ Good (G y)) (w0 w : World) (gb : Nat) (A : Option Addr) (c : Nat) (row : Bool) (d l : Int)
    (hT : Tab w0) (hC : k24.C w0 A L.length L) (hb : Below w0.heap.size w0 w) (hlt : w0.heap.size ≤ gb) (hg : w.heap[gb]? = some (.cells #[.int .i64 l] 54 (0, 0))) (h0 : 0 ≤ l) (h1 : l ≤ 4096) (hd0 : 0 ≤ d) (hd1 : d ≤ 401) :
    Calls Tryd.prog 17 #[.pointer (some ⟨gb, 0, none⟩), .agg #[.int .i64 4, .string N, .int .i64 V, .slice A L.length c], .bool row, .int .i64 d] w fun e w' => Left gb w (step G 4 V N L row d l) e w' := by
  have HX := Go.Lib.hid hX
  clear hX
  have HB := Go.Lib.hid hb
  have HC := Go.Lib.hid hC
  have HG := Go.Lib.hid hg
  have HT := Go.Lib.hid hT
  have hs0 : 0 < w0.heap.size := World.block_lt_of_cell? w0 ⟨0, 0, none⟩ hT.1
  have hbs := hb.size
  have hne0 : ¬ (0 = gb) := by omega
  have hgl := blk_lt hg
  have HGL := Go.Lib.hid hgl
  have g0 := fun o => (blk_cell (blk_alloc hg o) 0).trans (show #[Value.int IntKind.i64 l][0]? = some (.int .i64 l) from rfl)
  have g1 := fun o i => blk_frozen (blk_alloc hg o) i
  have hT' := hT.lift hb
  have tb := fun (o : Obj) (v : Value) => (⟨fun i => rfl, trivial⟩ : (∀ i : Nat, ((w.alloc o).setCell ⟨gb, 0, none⟩ v).cell? ⟨0, i, none⟩ = ((w.alloc o).setCell ⟨gb, 0, none⟩ v).cell? ⟨0, i, none⟩) ∧ True)
  clear tb
  have bx := fun (v : Value) => blk_far (blk_new w (.cells #[.int .i64 4, .string N, .int .i64 V, .slice A L.length c] 24 (0, 0))) (p := ⟨gb, 0, none⟩) (by simp; omega) v
  have b0 := fun v => (blk_cell (bx v) 0).trans (show _ = some (Value.int .i64 4) from rfl)
  have b1 := fun v => (blk_cell (bx v) 1).trans (show _ = some (Value.string N) from rfl)
  have b2 := fun v => (blk_cell (bx v) 2).trans (show _ = some (Value.int .i64 V) from rfl)
  have b3 := fun v => (blk_cell (bx v) 3).trans (show _ = some (Value.slice A L.length c) from rfl)
  have BX := Go.Lib.hid bx
  clear bx
  have tl : ∀ (o : Obj) (v : Value) (a : Addr) (u : Value), a.block ≠ gb → w.cell? a = some u → ((w.alloc o).setCell ⟨gb, 0, none⟩ v).cell? a = some u := by
    intro o v a u hn hu
    have h2 := (Kb.trans (Kb.alloc gb w o) (Kb.set gb 0 _ v)).block a.block (World.block_lt_of_cell? w a hu) hn
    simpa [World.cell?, h2] using hu
  obtain ⟨t0, t1, t2, t3, t4, t5⟩ := hT'
  replace t0 := fun o v => tl o v _ _ (by simp; omega) t0
  replace t1 := fun o v => tl o v _ _ (by simp; omega) t1
  replace t2 := fun o v => tl o v _ _ (by simp; omega) t2
  replace t3 := fun o v => tl o v _ _ (by simp; omega) t3
  replace t4 := fun o v => tl o v _ _ (by simp; omega) t4
  replace t5 := fun o v => tl o v _ _ (by simp; omega) t5
  clear tl
  clear hb hC hg hT hgl hbs
  go_enter Tryd.func17, Tryd.ntmps17
  by_cases ha : l - 1 < 0
  · skip
    rw [show step G 4 V N L row d l = (l - 1, 2) by simp [step, bad, ha]]
    have ha_b : decide (l - 1 < 0) = true := decide_eq_true ha
    go_wp2_with fail
    go_ret
    exact left_now HG _ _ _
  by_cases hd : 400 < d
  · skip
    rw [show step G 4 V N L row d l = (l - 1, 2) by simp [step, bad, ha, hd]]
    have ha_b : decide (l - 1 < 0) = false := decide_eq_false ha
    have hd_b : decide (400 < d) = true := decide_eq_true hd
    go_wp2_with fail
    go_ret
    exact left_now HG _ _ _
  by_cases hn : ¬ (L.length : Int) = 0
  · skip
    rw [show step G 4 V N L row d l = (l - 1, 3) by simp [step, bad, ha, hd, hn, (show ¬ L = [] from fun h => hn (by simp [h]))]]
    have ha_b : decide (l - 1 < 0) = false := decide_eq_false ha
    have hd_b : decide (400 < d) = false := decide_eq_false hd
    have hn_b : ((L.length : Int) == 0) = false := beq_eq_false_iff_ne.mpr hn
    have hn_c : ((L.length : Int) != 0) = true := bne_iff_ne.mpr hn
    go_wp2_with fail
    go_quiet (fail)
    go_wp2_with fail
    go_ret
    exact left_nowd HG _ _ _ _
  replace hn := Decidable.not_not.mp hn
  by_cases hv : ¬ V = 0
  · skip
    rw [show step G 4 V N L row d l = (l - 1, 3) by simp [step, bad, ha, hd, hn, (show L = [] from List.length_eq_zero_iff.mp (by omega)), hv]]
    have ha_b : decide (l - 1 < 0) = false := decide_eq_false ha
    have hd_b : decide (400 < d) = false := decide_eq_false hd
    have hn_b : ((L.length : Int) == 0) = true := beq_iff_eq.mpr hn
    have hn_c : ((L.length : Int) != 0) = false := bne_eq_false_iff_eq.mpr hn
    have hv_b : (V == 0) = false := beq_eq_false_iff_ne.mpr hv
    have hv_c : (V != 0) = true := bne_iff_ne.mpr hv
    go_wp2_with fail
    go_quiet (fail)
    go_wp2_with fail
    go_ret
    exact left_nowd HG _ _ _ _
  replace hv := Decidable.not_not.mp hv
  subst hv
  by_cases he : N.toList.isEmpty = false
  · skip
    rw [show step G 4 0 N L row d l = (l - 1, 3) by simp [step, bad, ha, hd, hn, (show L = [] from List.length_eq_zero_iff.mp (by omega)), he]]
    have ha_b : decide (l - 1 < 0) = false := decide_eq_false ha
    have hd_b : decide (400 < d) = false := decide_eq_false hd
    have hn_b : ((L.length : Int) == 0) = true := beq_iff_eq.mpr hn
    have hn_c : ((L.length : Int) != 0) = false := bne_eq_false_iff_eq.mpr hn
    have he_b := he
    go_wp2_with fail
    go_quiet (fail)
    go_wp2_with fail
    go_ret
    exact left_nowd HG _ _ _ _
  by_cases hr : ¬ row = true
  · skip
    rw [show step G 4 0 N L row d l = (l - 1, 9) by simp [step, bad, ha, hd, hn, (show L = [] from List.length_eq_zero_iff.mp (by omega)), he, hr]]
    have ha_b : decide (l - 1 < 0) = false := decide_eq_false ha
    have hd_b : decide (400 < d) = false := decide_eq_false hd
    have hn_b : ((L.length : Int) == 0) = true := beq_iff_eq.mpr hn
    have hn_c : ((L.length : Int) != 0) = false := bne_eq_false_iff_eq.mpr hn
    have he_b : N.toList.isEmpty = true := by simpa using he
    obtain rfl : row = false := by cases row <;> simp_all
    go_wp2_with fail
    go_quiet (fail)
    go_wp2_with fail
    go_ret
    exact left_nowd HG _ _ _ _
  have ha_b : decide (l - 1 < 0) = false := decide_eq_false ha
  have hd_b : decide (400 < d) = false := decide_eq_false hd
  have hn_b : ((L.length : Int) == 0) = true := beq_iff_eq.mpr hn
  have hn_c : ((L.length : Int) != 0) = false := bne_eq_false_iff_eq.mpr hn
  have he_b : N.toList.isEmpty = true := by simpa using he
  obtain rfl : row = true := by cases row <;> simp_all
  rw [show step G 4 0 N L true d l = lp G (rdOf 4) d L 0 (l - 1) by simp [step, bad, ha, hd, hn, (show L = [] from List.length_eq_zero_iff.mp (by omega)), he, hr]]
  generalize hR : lp G (rdOf 4) d L 0 (l - 1) = R
  have HR := Go.Lib.hid hR
  clear hR
  go_wp2_with fail
  go_quiet (fail)
  go_wp2_with fail
  go_loopg [104] L.length (fun k v wr => ∃ (i : Nat) (l1 : Int), i + k = L.length ∧ v = .int .i64 i ∧ Hid (wr.heap[gb]? = some (.cells #[.int .i64 l1] 54 (0, 0))) ∧ Hid (Kb gb w wr) ∧ Hid (wr.heap[w.heap.size]? = some (.cells #[.int .i64 4, .string N, .int .i64 0, .slice A L.length c] 24 (0, 0))) ∧ Hid (0 ≤ l1 ∧ l1 ≤ 4096) ∧ Hid (lp G (rdOf 4) d (L.drop i) i l1 = R))
  case atStart => exact ⟨0, l - 1, by omega, rfl, Go.Lib.hid (left_nowd HG (l - 1) 0 _ _).2.1, Go.Lib.hid (left_nowd HG (l - 1) 0 _ _).2.2, Go.Lib.hid (BX.out _), Go.Lib.hid ⟨by omega, by omega⟩, HR⟩
  case round =>
    clear g0 g1 b0 b1 b2 b3 t0 t1 t2 t3 t4 t5
    obtain ⟨i, l1, hi, rfl, hg, hk, hbx, hl, hr⟩ := hrel
    have e0 := (blk_cell hbx.out 0).trans (show _ = some (Value.int .i64 4) from rfl)
    have e3 := (blk_cell hbx.out 3).trans (show _ = some (Value.slice A L.length c) from rfl)
    have e0' := lift1 e0
    have hbw := Go.Lib.hid (Kb.below hk.out HB.out hlt)
    by_cases hlt2 : i < L.length
    · obtain ⟨ad, A3, c3, rfl, x0, x1, x2, x3, _, g3⟩ := at_T24 (Kd.C_below HC.out hbw.out) i (by omega) (by omega)
      have hcx := Go.Lib.hid (at_T24 HC.out i (by omega) (by omega))
      have hdr := Go.Lib.hid (drop_rd hlt2)
      have hmm := Go.Lib.hid (mem_rd hlt2)
      clear g3
      generalize rd_T24 L i = y at *
      rw [Int.toNat_natCast] at x0 x1 x2 x3
      have HS : Hid (k24.C w0 A3 y.f3.length y.f3) := by
        obtain ⟨ad', A3', q3', q1, y0, y1, y2, y3, _, g3'⟩ := hcx.out
        obtain rfl := Option.some.inj q1
        rw [Int.toNat_natCast] at y3
        have := (pw_cell_below hbw.out y3).symm.trans x3
        obtain ⟨rfl, -, -⟩ := Value.slice.inj (Option.some.inj this)
        exact g3'
      exact absurd hlt2 (by omega)
    · go_wp2_with fail
      go_ret
      have h : lp G (rdOf 4) d (L.drop i) i l1 = R := hr.out
      rw [List.drop_eq_nil_of_le (by omega), lp] at h
      subst h
      exact ⟨rfl, hg.out, hk.out⟩

set_option maxHeartbeats 8000000 in
set_option maxRecDepth 100000 in
theorem ref_k4 (G : S24 → Bool → Int → Int → Int × Int) (V : Int) (N : ByteArray) (L : List S24) (hX : ∀ y ∈ L, Ref y (G y) ∧ Good (G y)) (w : World) (A : Option Addr) (c : Nat) (row : Bool) (d s : Int)
    (hC : k24.C w A L.length L) (h0 : 0 ≤ s) (h1 : s ≤ 4096) (hd0 : 0 ≤ d) (hd1 : d ≤ 401) :
    Calls Tryd.prog 18 #[.agg #[.int .i64 4, .string N, .int .i64 V, .slice A L.length c], .bool row, .int .i64 d, .int .i64 s] w fun e w' => Told w (step G 4 V N L row d (4096 - s)) e w' := by
  have HX := Go.Lib.hid hX
  have HC := Go.Lib.hid hC
  clear hX hC
  go_enter Tryd.func18, Tryd.ntmps18
  by_cases ha : 4096 < s + 1
  · skip
    rw [show step G 4 V N L row d (4096 - s) = (4096 - s - 1, 2) by simp [step, bad, (show 4096 - s - 1 < 0 by omega)]]
    have ha_b : decide (4096 < s + 1) = true := decide_eq_true ha
    go_wp2_with fail
    go_ret2
    exact told_now0 _ _ _ _
  by_cases hd : 400 < d
  · skip
    rw [show step G 4 V N L row d (4096 - s) = (4096 - s - 1, 2) by simp [step, bad, (show ¬ 4096 - s - 1 < 0 by omega), hd]]
    have ha_b : decide (4096 < s + 1) = false := decide_eq_false ha
    have hd_b : decide (400 < d) = true := decide_eq_true hd
    go_wp2_with fail
    go_ret2
    exact told_now0 _ _ _ _
  by_cases hn : ¬ (0 : Int) = (L.length : Int)
  · skip
    rw [show step G 4 V N L row d (4096 - s) = (4096 - s - 1, 3) by simp [step, bad, (show ¬ 4096 - s - 1 < 0 by omega), hd, (show ¬ L = [] from fun h => hn (by simp [h]))]]
    have ha_b : decide (4096 < s + 1) = false := decide_eq_false ha
    have hd_b : decide (400 < d) = false := decide_eq_false hd
    have hn_b : ((0 : Int) == (L.length : Int)) = false := beq_eq_false_iff_ne.mpr hn
    have hn_c : ((0 : Int) != (L.length : Int)) = true := bne_iff_ne.mpr hn
    go_wp2_with fail
    go_quiet (fail)
    go_wp2_with fail
    go_ret2
    exact told_now _ _ _ _ _
  replace hn := (Decidable.not_not.mp hn).symm
  by_cases hv : ¬ V = 0
  · skip
    rw [show step G 4 V N L row d (4096 - s) = (4096 - s - 1, 3) by simp [step, bad, (show ¬ 4096 - s - 1 < 0 by omega), hd, (show L = [] from List.length_eq_zero_iff.mp (by omega)), hv]]
    have ha_b : decide (4096 < s + 1) = false := decide_eq_false ha
    have hd_b : decide (400 < d) = false := decide_eq_false hd
    have hn_b : ((0 : Int) == (L.length : Int)) = true := beq_iff_eq.mpr hn.symm
    have hn_c : ((0 : Int) != (L.length : Int)) = false := bne_eq_false_iff_eq.mpr hn.symm
    have hv_b : (V == 0) = false := beq_eq_false_iff_ne.mpr hv
    have hv_c : (V != 0) = true := bne_iff_ne.mpr hv
    go_wp2_with fail
    go_quiet (fail)
    go_wp2_with fail
    go_ret2
    exact told_now _ _ _ _ _
  replace hv := Decidable.not_not.mp hv
  subst hv
  by_cases he : N.toList.isEmpty = false
  · skip
    rw [show step G 4 0 N L row d (4096 - s) = (4096 - s - 1, 3) by simp [step, bad, (show ¬ 4096 - s - 1 < 0 by omega), hd, (show L = [] from List.length_eq_zero_iff.mp (by omega)), he]]
    have ha_b : decide (4096 < s + 1) = false := decide_eq_false ha
    have hd_b : decide (400 < d) = false := decide_eq_false hd
    have hn_b : ((0 : Int) == (L.length : Int)) = true := beq_iff_eq.mpr hn.symm
    have hn_c : ((0 : Int) != (L.length : Int)) = false := bne_eq_false_iff_eq.mpr hn.symm
    have he_b := he
    go_wp2_with fail
    go_quiet (fail)
    go_wp2_with fail
    go_ret2
    exact told_now _ _ _ _ _
  by_cases hr : ¬ row = true
  · skip
    rw [show step G 4 0 N L row d (4096 - s) = (4096 - s - 1, 9) by simp [step, bad, (show ¬ 4096 - s - 1 < 0 by omega), hd, (show L = [] from List.length_eq_zero_iff.mp (by omega)), he, hr]]
    have ha_b : decide (4096 < s + 1) = false := decide_eq_false ha
    have hd_b : decide (400 < d) = false := decide_eq_false hd
    have hn_b : ((0 : Int) == (L.length : Int)) = true := beq_iff_eq.mpr hn.symm
    have hn_c : ((0 : Int) != (L.length : Int)) = false := bne_eq_false_iff_eq.mpr hn.symm
    have he_b : N.toList.isEmpty = true := by simpa using he
    obtain rfl : row = false := by cases row <;> simp_all
    go_wp2_with fail
    go_quiet (fail)
    go_wp2_with fail
    go_ret2
    exact told_now _ _ _ _ _
  have ha_b : decide (4096 < s + 1) = false := decide_eq_false ha
  have hd_b : decide (400 < d) = false := decide_eq_false hd
  have hn_b : ((0 : Int) == (L.length : Int)) = true := beq_iff_eq.mpr hn.symm
  have hn_c : ((0 : Int) != (L.length : Int)) = false := bne_eq_false_iff_eq.mpr hn.symm
  have he_b : N.toList.isEmpty = true := by simpa using he
  obtain rfl : row = true := by cases row <;> simp_all
  rw [show step G 4 0 N L true d (4096 - s) = lp G (rdOf 4) d L 0 (4096 - s - 1) by simp [step, bad, (show ¬ 4096 - s - 1 < 0 by omega), hd, (show L = [] from List.length_eq_zero_iff.mp (by omega)), he, hr]]
  generalize hR : lp G (rdOf 4) d L 0 (4096 - s - 1) = R
  have HR := Go.Lib.hid hR
  clear hR
  go_wp2_with fail
  go_quiet (fail)
  go_wp2_with fail
  go_loopg [3, 106] L.length (fun k v3 v106 wr => ∃ (i : Nat) (s1 : Int), i + k = L.length ∧ v3 = .int .i64 s1 ∧ v106 = .int .i64 i ∧ Hid (Below w.heap.size w wr) ∧ Hid (wr.heap[w.heap.size]? = some (.cells #[.int .i64 4, .string N, .int .i64 0, .slice A L.length c] 24 (0, 0))) ∧ Hid (0 ≤ s1 ∧ s1 ≤ 4096) ∧ Hid (lp G (rdOf 4) d (L.drop i) i (4096 - s1) = R))
  case atStart => exact ⟨0, s + 1, by omega, rfl, rfl, Go.Lib.hid (told_now s 0 _ _ _).2, Go.Lib.hid (blk_drewN (blk_alloc (blk_new w _) _) _), Go.Lib.hid ⟨by omega, by omega⟩, Go.Lib.hid (by have h := HR.out; rw [show (4096 : Int) - (s + 1) = 4096 - s - 1 by omega]; exact h)⟩
  case round =>
    clear hn_b hn_c
    obtain ⟨i, s1, hi, rfl, rfl, hb, hbx, hl, hr⟩ := hrel
    have e0 := (blk_cell hbx.out 0).trans (show _ = some (Value.int .i64 4) from rfl)
    have e3 := (blk_cell hbx.out 3).trans (show _ = some (Value.slice A L.length c) from rfl)
    have e0' := lift1 e0
    by_cases hlt2 : i < L.length
    · obtain ⟨ad, A3, c3, rfl, x0, x1, x2, x3, _, g3⟩ := at_T24 (Kd.C_below HC.out hb.out) i (by omega) (by omega)
      have hcx := Go.Lib.hid g3
      have hdr := Go.Lib.hid (drop_rd hlt2)
      have hmm := Go.Lib.hid (mem_rd hlt2)
      clear g3
      generalize rd_T24 L i = y at *
      rw [Int.toNat_natCast] at x0 x1 x2 x3
      exact absurd hlt2 (by omega)
    · go_wp2_with fail
      go_ret2
      have h : lp G (rdOf 4) d (L.drop i) i (4096 - s1) = R := hr.out
      rw [List.drop_eq_nil_of_le (by omega), lp] at h
      subst h
      exact ⟨by simp; omega, hb.out⟩

end Go.Proofs.YtnnjflcgcdeidaaDoor.Va
