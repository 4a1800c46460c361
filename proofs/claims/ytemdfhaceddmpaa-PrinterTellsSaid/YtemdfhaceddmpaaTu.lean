import Derived.Test.YtemdfhaceddmpaaTi
import Derived.Test.YtemdfhaceddmpaaTt
import Derived.Lib.SliceRun
namespace Go.Proofs.Ytemdfhaceddmpaa.Tr
open Go.Shelf Go.RowKit Go.Proofs.Ytemdfhaceddmpaa.PPrinterTells Go.Proofs.YtemdfhaceddmpaaW.PrintWords Go.Proofs.YtemdfhaceddmpaaW.PrintLast Go.Proofs.YtemdfhaceddmpaaW.PrintMore
set_option linter.unusedVariables false
set_option linter.unusedSimpArgs false

/-- A copy: a row of the call's own, the kids still the old ones. -/
structure UR (w W : World) (g : Nat) (us : List S27) : Prop where
  rows : ReadsRow (k27.K w) 6 W (some ⟨g, 0, none⟩) us.length us
  new : w.heap.size ≤ g
  blk : ∃ cs, W.heap[g]? = some (.cells cs 27 (0, 0))
  below : Below w.heap.size w W
theorem UR.lift {w W W' : World} {g : Nat} {us : List S27} (h : UR w W g us) (hb : Below W.heap.size W W') : UR w W' g us := by
  obtain ⟨cs, hcs⟩ := h.blk
  exact ⟨ReadsRow.imp_ h.rows hb (fun _ _ hp => hp), h.new, ⟨cs, blk_below hcs hb⟩, below_step h.below hb⟩
theorem UR.C {w W : World} {g : Nat} {us : List S27} (h : UR w W g us) : Kd.C k27 W (some ⟨g, 0, none⟩) us.length us := ReadsRow.imp_ h.rows (Below.refl _ _) (fun _ _ hp => k27.K_below h.below hp)
theorem UR.frozen {w W : World} {g : Nat} {us : List S27} (h : UR w W g us) (j : Nat) : W.frozen? ⟨g, j, none⟩ = false := by
  obtain ⟨cs, hcs⟩ := h.blk
  exact blk_frozen hcs j
theorem UR.at_ {w W : World} {g : Nat} {us : List S27} (h : UR w W g us) (i : Nat) (hi : i < us.length) : ∃ A3 c3, W.cell? ⟨g, i * 6, none⟩ = some (.int .i64 us[i].f0) ∧ W.cell? ⟨g, i * 6 + 1, none⟩ = some (.string us[i].f1) ∧ W.cell? ⟨g, i * 6 + 2, none⟩ = some (.int .i64 us[i].f2) ∧
    W.cell? ⟨g, i * 6 + 3, none⟩ = some (.slice A3 us[i].f3.length c3) ∧ W.cell? ⟨g, i * 6 + 4, none⟩ = some (.int .i64 us[i].f4) ∧ W.cell? ⟨g, i * 6 + 5, none⟩ = some (.int .i64 us[i].f5) ∧ us[i].f3.length ≤ c3 ∧ (Kd.int .i64).C w A3 us[i].f3.length us[i].f3 := by
  obtain ⟨ad, e, hc⟩ := h.rows.2.2 (by omega)
  cases e
  obtain ⟨c, hl, hK, hcc⟩ := hc i us[i] (List.getElem?_eq_getElem hi)
  obtain ⟨A3, c3, rfl, l3, g3⟩ := k27_open hK
  have hq : ∀ j u, [Value.int .i64 us[i].f0, .string us[i].f1, .int .i64 us[i].f2, .slice A3 us[i].f3.length c3, .int .i64 us[i].f4, .int .i64 us[i].f5][j]? = some u → W.cell? ⟨g, i * 6 + j, none⟩ = some u := fun j u hu => by
    have := hcc j u hu
    rwa [add_plain] at this
  exact ⟨A3, c3, hq 0 _ rfl, hq 1 _ rfl, hq 2 _ rfl, hq 3 _ rfl, hq 4 _ rfl, hq 5 _ rfl, l3, g3⟩
/-- One field of one element is written. -/
theorem UR.put {w W : World} {g : Nat} {us : List S27} (h : UR w W g us) (i : Nat) (hi : i < us.length) (f : Nat) (hf : f < 6) (v : Value) (x' : S27) (hK : ∀ c, k27.K w us[i] c → k27.K w x' (c.set f v)) :
    UR w (W.setCell ⟨g, i * 6 + f, none⟩ v) g (us.set i x') := by
  obtain ⟨cs, hcs⟩ := h.blk
  refine ⟨?_, h.new, ⟨_, blk_set hcs _ v⟩, h.below.setCell h.new _⟩
  obtain ⟨ad, e, hc⟩ := h.rows.2.2 (by omega)
  cases e
  refine ⟨rfl, by rw [List.length_set]; exact h.rows.2.1, fun _ => ⟨_, rfl, fun j p hj => ?_⟩⟩
  by_cases hij : i = j
  · subst hij
    rw [List.getElem?_set_self hi] at hj
    obtain rfl := Option.some.inj hj
    obtain ⟨c, hl, hKc, hcc⟩ := hc i us[i] (List.getElem?_eq_getElem hi)
    refine ⟨c.set f v, by rw [List.length_set]; exact hl, hK c hKc, fun q u hu => ?_⟩
    rw [add_plain]
    by_cases hq : f = q
    · subst hq
      rw [List.getElem?_set_self (by omega)] at hu
      obtain rfl := Option.some.inj hu
      have h2 := hcc f c[f] (List.getElem?_eq_getElem (by omega))
      rw [add_plain] at h2
      exact World.cell?_setCell_same _ _ _ h2
    · rw [List.getElem?_set_ne hq] at hu
      have h2 := hcc q u hu
      rw [add_plain] at h2
      rw [World.cell?_setCell_other _ _ _ _ (by simp only [ne_eq, Addr.mk.injEq, true_and, and_true]; omega)]
      exact h2
  · rw [List.getElem?_set_ne hij] at hj
    obtain ⟨c, hl, hKc, hcc⟩ := hc j p hj
    refine ⟨c, hl, hKc, fun q u hu => ?_⟩
    have hql := (List.getElem?_eq_some_iff.1 hu).1
    have h2 := hcc q u hu
    rw [add_plain] at h2 ⊢
    rw [World.cell?_setCell_other _ _ _ _ (by simp only [ne_eq, Addr.mk.injEq, true_and, and_true]; omega)]
    exact h2

theorem info27 : (Try.prog.info? 27).map (fun i => (i.zero, i.size, i.bytes)) = some (some (.agg #[.int .i64 0, .string ⟨#[]⟩, .int .i64 0, .slice none 0 0, .int .i64 0, .int .i64 0]), 6, 72) := by kernel_rfl
theorem q22 (w : World) (a : Option Addr) (n c n' c' : Nat) : (binOp .eql 22 (.slice a n c) (.slice none n' c')).run Try.prog w = .ok (.bool a.isNone) w := Lib.run_eql_slice_nil w _ _ a n c n' c' Try.underlying22
/-- What Clone answers. -/
def ClonePost (t : List S27) (w : World) (e : Ending) (w' : World) : Prop := ∃ g c, e = .returned (.slice (some ⟨g, 0, none⟩) t.length c) ∧ t.length ≤ c ∧ UR w w' g t

theorem clone_row {w W w1 : World} {ad : Addr} {t : List S27} {v : Value} {news : List Value} (hn : 0 < t.length) (hW : Below w.heap.size w W) (ho : w1.ownsRow w.heap.size 27 6 v t.length news) (hr : Reps (k27.K w) 6 t news) (hb : Below w.heap.size w w1) : ∃ g c, v = .slice (some ⟨g, 0, none⟩) t.length c ∧ t.length ≤ c ∧ UR w w1 g t := by
  rcases ho.2 with ⟨_, h0⟩ | ⟨g, cap, cur, rfl, hg, hh, hnc, hcm, hsz, htk⟩
  · omega
  refine ⟨g, cap, rfl, hnc, ⟨rfl, by simp only [maxLen] at hcm; omega, fun _ => ⟨_, rfl, fun j p hj => ⟨_, ?_, hr.2 j p hj, fun i u hu => ?_⟩⟩⟩, hg, ⟨cur, hh⟩, hb⟩
  · have hjl := (List.getElem?_eq_some_iff.1 hj).1
    rw [List.length_take, List.length_drop, hr.1]
    omega
  · rw [add_plain, blk_cell hh]
    rw [List.getElem?_take] at hu
    split at hu
    · rw [List.getElem?_drop, ← htk, List.getElem?_take] at hu
      split at hu
      · rw [← hu]; simp
      · cases hu
    · cases hu

set_option maxHeartbeats 2000000 in
theorem clone_calls (t : List S27) (ad : Addr) (c0 : Nat) (w : World) (hr : Kd.C k27 w (some ad) t.length t) (hn : 0 < t.length) (hl : t.length ≤ 4096) :
    Calls Try.prog 8 #[.slice (some ad) t.length c0] w (ClonePost t w) := by
  obtain ⟨news, hR, hcells⟩ := ReadsRow.inner_ hr
  have hone : ∀ u ∈ news, u.oneCell' = true := Go.Proofs.YtemdfhaceddmpaaW.PrintWords.Kd.reps_one hR (by decide) (fun p c h => k27.K_one h)
  have hE := q22 w (some ad) t.length c0 0 0
  obtain ⟨i0, hi, hz0, hz1, hz2⟩ := info_parts info27
  have HC := Go.Lib.hid hcells
  have HR := Go.Lib.hid hR
  have HO := Go.Lib.hid hone
  have HN := Go.Lib.hid hn
  have HL := Go.Lib.hid hl
  have HI := Go.Lib.hid hi
  have HZ0 := Go.Lib.hid hz0
  have HZ1 := Go.Lib.hid hz1
  have HZ2 := Go.Lib.hid hz2
  have HP : ∀ v w1, w1.ownsRow w.heap.size 27 6 v t.length news → Below w.heap.size w w1 → Hid (∃ g c, v = .slice (some ⟨g, 0, none⟩) t.length c ∧ t.length ≤ c ∧ UR w w1 g t) := fun v w1 ho hb => Go.Lib.hid (clone_row (ad := ad) hn (Below.refl _ _) ho hR hb)
  clear hcells hR hone hn hl hi hz0 hz1 hz2 hr
  go_enter Try.func8, Try.ntmps8
  go_wp2_with ((with_reducible refine gate_builtin (b := .append) (xs := #[.tmp 5, .tmp 6]) rfl ?_); at_builtin; refine wpList_append_own_at (w.alloc (.cells #[] 27)) rfl (.tmp 5) (.tmp 6) 22 rfl w.heap.size 27 i0 (.agg #[.int .i64 0, .string ⟨#[]⟩, .int .i64 0, .slice none 0 0, .int .i64 0, .int .i64 0]) 6 72 Try.underlying22 HI.out HZ0.out HZ1.out HZ2.out rfl (by decide) (.slice (some ⟨w.heap.size, 0, none⟩) 0 0) 0 [] rfl ?q1 ad t.length c0 news rfl ?q2 ?q3 HO.out ?q4 ?q5 ?q6 ?_; (case q1 => exact World.ownsRow_lit (base := w.heap.size) (e := 27) (size := 6) w #[] 0 (Nat.le_refl _) (by decide) rfl); (case q2 => exact HR.out.1); (case q3 => exact fun j u hu => pw_cell_below (below_alloc (Below.refl _ _) _) (HC.out j u hu)); (case q4 => have h_ := HL.out; simp only [maxLen]; omega); (case q5 => have h_ := HL.out; omega); (case q6 => exact (below_alloc (Below.refl _ _) _).size); intro v1 w9 ho9 hg9 _ hat9; have HF := HP v1 w9 (by rw [Nat.zero_add, List.nil_append] at ho9; exact ho9) ((below_alloc (Below.refl w.heap.size w) _).grown hg9 (below_alloc (Below.refl w.heap.size w) _).size (by simp [Value.ownBlock])); clear ho9 hg9 hat9)
  obtain ⟨g, c, e1, h2, h3⟩ := HF.out
  go_wp2_with fail
  go_ret
  exact ⟨g, c, by rw [← e1]; rfl, h2, h3⟩
end Go.Proofs.Ytemdfhaceddmpaa.Tr
