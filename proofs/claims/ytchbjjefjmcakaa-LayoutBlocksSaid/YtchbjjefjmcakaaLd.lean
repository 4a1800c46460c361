/- The marker's put. -/
import Derived.Test.YtchbjjefjmcakaaLc
namespace Go.Proofs.Ytchbjjefjmcakaa.Lb
open Go.RowKit Go.Proofs.Ytchbjjefjmcakaa.PLayoutBlocks Go.Proofs.YtchbjjefjmcakaaW.PrintWords Go.Proofs.YtchbjjefjmcakaaW.PrintLast Go.Proofs.YtchbjjefjmcakaaW.PrintMore
set_option linter.unusedVariables false
set_option linter.unusedSimpArgs false
/-- A token's value; a token of the layout. -/
abbrev tV (t : S27) : Value := .agg #[.int .i64 t.f0, .string t.f1, .int .i64 t.f2, .int .i64 t.f3, .int .i64 t.f4]
abbrev tO (t : S27) : Obj := .cells #[.int .i64 t.f0, .string t.f1, .int .i64 t.f2, .int .i64 t.f3, .int .i64 t.f4] 27 (0, 0)
def vt (k : Int) (t : S27) : S27 := ⟨k, ⟨#[]⟩, 0, t.f3, t.f4⟩
def put.T1 : Bool × List (List Nat × List Nat) := (true, [([], []), ([], []), ([1], [1]), ([2], [2]), ([3], [3]), ([], []), ([], []), ([6], [6]), ([], []), ([8], [8]), ([5, 7, 9], [5, 7, 9]), ([10], [10]), ([4, 11], [4, 11]), ([0, 0, 1, 2, 3, 4, 5, 6, 7, 8, 9, 10, 11, 12], [0]), ([13, 0, 1, 2, 3, 4, 5, 6, 7, 8, 9, 10, 11, 12], [13]), ([14, 12, 12, 0, 1, 2, 3, 4, 5, 6, 7, 8, 9, 10, 11, 12], [12, 14])])
def put.B1 : List Nat := [0, 0, 2, 6, 14, 0, 0, 64, 0, 256, 992, 2016, 4094, 8191, 16383, 32767]
theorem put.tab1 : rtab .any (opsOf Try.f12 1) = put.T1 := by kernel_rfl
theorem put.bits1 : waitsOk put.T1.2 put.B1 = true := by kernel_rfl
set_option maxRecDepth 100000 in
theorem put_calls {p : Pm} {g : Nat} (hm : Mkr p g) (k : Int) (t : S27) {As Ao : Option Addr} {cs co : Nat} {st : List Fr} {out : List S27} {W : World} (h : Two p As cs st Ao co out W) (hl : out.length < 1000000) :
    Calls Try.prog 12 #[.pointer (some ⟨g, 0, none⟩), .int .i64 k, tV t] W fun e w' => e = .returned (.tuple #[]) ∧ TwoE p st (out ++ [vt k t]) w' := by
  have H0 := Go.Lib.hid (h.up (below_alloc (Below.refl _ _) (tO t))).drew
  have HL := Go.Lib.hid hl
  have HB0 := Go.Lib.hid (blk_drew (blk_new W (tO t)))
  obtain ⟨n, hn⟩ : ∃ n, n = out.length := ⟨_, rfl⟩
  have HN := Go.Lib.hid hn
  clear h hl hn
  go_enter Try.func12, Try.ntmps12
  go_wp2_with fail
  refine start_ (n := 16) (S := fun w' => True) (ds := []) #[false, false, false, false, false, false, false, false, false, false, false, false, false, false, false, false] (by kernel_rfl) rfl rfl trivial (fun hHeld => ?_)
  refine with_tabW put.tab1 put.bits1 (fun HT_ HW_ => ?_)
  refine inv_at [0, 1, 2, 3, 4, 5, 6, 7, 8, 9, 10, 11, 12, 13, 14, 15] (fun a0_ b a w' => ∃ (gb : Nat) (A1 : Option Addr) (c1 : Nat) (m11_ : Value) (m12_ : Value), a = putSel a0_ b [(0, 6, .pointer (some ⟨g, 0, none⟩)), (1, 7, .pointer (some ⟨g, 0, none⟩)), (2, 8, .pointer (some ⟨g, 0, none⟩)), (3, 9, .pointer (some ⟨g, 1, none⟩)), (4, 10, .slice Ao n co), (5, 11, .int .i64 k), (6, 12, .pointer (some ⟨W.heap.size, 3, none⟩)), (7, 13, .int .i64 t.f3), (8, 14, .pointer (some ⟨W.heap.size, 4, none⟩)), (9, 15, .int .i64 t.f4), (10, 16, .agg #[.int .i64 k, .string ⟨#[]⟩, .int .i64 0, .int .i64 t.f3, .int .i64 t.f4]), (11, 17, m11_), (12, 18, m12_), (13, 19, .pointer (some ⟨g, 0, none⟩)), (14, 20, .pointer (some ⟨g, 1, none⟩))] ∧ (b 12 = false → Two p As cs st Ao co out w') ∧ (b 11 = true → b 12 = false → w'.heap[gb]? = some (.cells #[.int .i64 k, .string ⟨#[]⟩, .int .i64 0, .int .i64 t.f3, .int .i64 t.f4] 27)) ∧ (b 12 = true → b 15 = false → PendO p As cs st Ao co out (vt k t) (.slice A1 (n + 1) c1) w') ∧ (b 15 = true → TwoE p st (out ++ [vt k t]) w') ∧ (b 12 = false → w'.heap[W.heap.size]? = some (tO t)) ∧ (b 11 = true → (m11_ : Value) = .slice (some ⟨gb, 0, none⟩) 1 1) ∧ (b 12 = true → (m12_ : Value) = .slice A1 (n + 1) c1)) HT_.out HW_.out (by kernel_rfl) (by kernel_rfl) ?_ ?_ ?_
  · exact ⟨0, none, 0, .bool false, .bool false, by simp only [putSel, Bool.false_eq_true, if_false], fun _ => H0.out, fun h_ => absurd h_ (by decide), fun h_ => absurd h_ (by decide), fun h_ => absurd h_ (by decide), fun _ => HB0.out, fun h_ => absurd h_ (by decide), fun h_ => absurd h_ (by decide)⟩
  · skip
    refine steps_cons ?_ ?_
    · rintro b a w' ⟨gb, A1, c1, m11_, m12_, ha, Q_TW, Q_GB, Q_PW, Q_TZ, Q_TB, Q_X11_, Q_X12_⟩ hb_ hon hoff
      refine ⟨_, rfl, fun K hK => ?_⟩
      have e0 : a.tmps[0]? = some (.pointer (some ⟨g, 0, none⟩)) := by rw [ha]; exact (putSel_off rfl).trans rfl
      replace ha := Aside0.mk ha
      refine value_ (w1 := w') (v := .pointer (some ⟨g, 0, none⟩)) (by rfl) rfl ?_ ?_
      · go_simp
        (try simp only [i64_w])
        try rfl
      refine hK.out _ _ ⟨gb, A1, c1, m11_, m12_, (by rw [ha.out]; exact putSel_upk 0 hb_ rfl rfl rfl), Q_TW, Q_GB, Q_PW, fun h0_ => absurd ((hoff 15 (by kernel_rfl)).symm.trans h0_) (by decide), Q_TB, Q_X11_, Q_X12_⟩
    refine steps_cons ?_ ?_
    · rintro b a w' ⟨gb, A1, c1, m11_, m12_, ha, Q_TW, Q_GB, Q_PW, Q_TZ, Q_TB, Q_X11_, Q_X12_⟩ hb_ hon hoff
      refine ⟨_, rfl, fun K hK => ?_⟩
      have e0 : a.tmps[0]? = some (.pointer (some ⟨g, 0, none⟩)) := by rw [ha]; exact (putSel_off rfl).trans rfl
      replace ha := Aside0.mk ha
      have TW := Aside0.mk (Q_TW (hoff 12 (by kernel_rfl)))
      have TB := Aside0.mk (Q_TB (hoff 12 (by kernel_rfl)))
      refine value_ (w1 := w') (v := .pointer (some ⟨g, 0, none⟩)) (by rfl) rfl ?_ ?_
      · go_simp
        (try simp only [i64_w])
        try rfl
      refine hK.out _ _ ⟨gb, A1, c1, m11_, m12_, (by rw [ha.out]; exact putSel_upk 1 hb_ rfl rfl rfl), Q_TW, Q_GB, fun h0_ _ => absurd ((hoff 12 (by kernel_rfl)).symm.trans h0_) (by decide), fun h0_ => absurd ((hoff 15 (by kernel_rfl)).symm.trans h0_) (by decide), Q_TB, Q_X11_, fun h0_ => absurd ((hoff 12 (by kernel_rfl)).symm.trans h0_) (by decide)⟩
    refine steps_cons ?_ ?_
    · rintro b a w' ⟨gb, A1, c1, m11_, m12_, ha, Q_TW, Q_GB, Q_PW, Q_TZ, Q_TB, Q_X11_, Q_X12_⟩ hb_ hon hoff
      refine ⟨_, rfl, fun K hK => ?_⟩
      have e7 : a.tmps[7]? = some (.pointer (some ⟨g, 0, none⟩)) := by rw [ha]; exact putSel_on (e := (1, 7, .pointer (some ⟨g, 0, none⟩))) 1 rfl rfl (hon 1 (by kernel_rfl)) rfl
      replace ha := Aside0.mk ha
      have TW := Aside0.mk (Q_TW (hoff 12 (by kernel_rfl)))
      have TB := Aside0.mk (Q_TB (hoff 12 (by kernel_rfl)))
      refine value_ (w1 := w') (v := .pointer (some ⟨g, 0, none⟩)) (by rfl) rfl ?_ ?_
      · go_simp
        (try simp only [i64_w])
        try rfl
      refine hK.out _ _ ⟨gb, A1, c1, m11_, m12_, (by rw [ha.out]; exact putSel_upk 2 hb_ rfl rfl rfl), Q_TW, Q_GB, fun h0_ _ => absurd ((hoff 12 (by kernel_rfl)).symm.trans h0_) (by decide), fun h0_ => absurd ((hoff 15 (by kernel_rfl)).symm.trans h0_) (by decide), Q_TB, Q_X11_, fun h0_ => absurd ((hoff 12 (by kernel_rfl)).symm.trans h0_) (by decide)⟩
    refine steps_cons ?_ ?_
    · rintro b a w' ⟨gb, A1, c1, m11_, m12_, ha, Q_TW, Q_GB, Q_PW, Q_TZ, Q_TB, Q_X11_, Q_X12_⟩ hb_ hon hoff
      refine ⟨_, rfl, fun K hK => ?_⟩
      have e8 : a.tmps[8]? = some (.pointer (some ⟨g, 0, none⟩)) := by rw [ha]; exact putSel_on (e := (2, 8, .pointer (some ⟨g, 0, none⟩))) 2 rfl rfl (hon 2 (by kernel_rfl)) rfl
      replace ha := Aside0.mk ha
      have TW := Aside0.mk (Q_TW (hoff 12 (by kernel_rfl)))
      have TB := Aside0.mk (Q_TB (hoff 12 (by kernel_rfl)))
      refine value_ (w1 := w') (v := .pointer (some ⟨g, 1, none⟩)) (by rfl) rfl ?_ ?_
      · go_simp
        (try simp only [i64_w])
        try rfl
      refine hK.out _ _ ⟨gb, A1, c1, m11_, m12_, (by rw [ha.out]; exact putSel_upk 3 hb_ rfl rfl rfl), Q_TW, Q_GB, fun h0_ _ => absurd ((hoff 12 (by kernel_rfl)).symm.trans h0_) (by decide), fun h0_ => absurd ((hoff 15 (by kernel_rfl)).symm.trans h0_) (by decide), Q_TB, Q_X11_, fun h0_ => absurd ((hoff 12 (by kernel_rfl)).symm.trans h0_) (by decide)⟩
    refine steps_cons ?_ ?_
    · rintro b a w' ⟨gb, A1, c1, m11_, m12_, ha, Q_TW, Q_GB, Q_PW, Q_TZ, Q_TB, Q_X11_, Q_X12_⟩ hb_ hon hoff
      refine ⟨_, rfl, fun K hK => ?_⟩
      have e9 : a.tmps[9]? = some (.pointer (some ⟨g, 1, none⟩)) := by rw [ha]; exact putSel_on (e := (3, 9, .pointer (some ⟨g, 1, none⟩))) 3 rfl rfl (hon 3 (by kernel_rfl)) rfl
      replace ha := Aside0.mk ha
      have TW := Aside0.mk (Q_TW (hoff 12 (by kernel_rfl)))
      have TB := Aside0.mk (Q_TB (hoff 12 (by kernel_rfl)))
      have hc0_ : w'.cell? ⟨g, 1, none⟩ = some (.slice Ao n co) := (by have h_ := TW.out.cO; rw [hm.ho, ← HN.out] at h_; exact h_)
      refine value_ (w1 := w') (v := .slice Ao n co) (by rfl) rfl ?_ ?_
      · go_simp
        (try simp only [i64_w])
        try rfl
      refine hK.out _ _ ⟨gb, A1, c1, m11_, m12_, (by rw [ha.out]; exact putSel_upk 4 hb_ rfl rfl rfl), Q_TW, Q_GB, fun h0_ _ => absurd ((hoff 12 (by kernel_rfl)).symm.trans h0_) (by decide), fun h0_ => absurd ((hoff 15 (by kernel_rfl)).symm.trans h0_) (by decide), Q_TB, Q_X11_, fun h0_ => absurd ((hoff 12 (by kernel_rfl)).symm.trans h0_) (by decide)⟩
    refine steps_cons ?_ ?_
    · rintro b a w' ⟨gb, A1, c1, m11_, m12_, ha, Q_TW, Q_GB, Q_PW, Q_TZ, Q_TB, Q_X11_, Q_X12_⟩ hb_ hon hoff
      refine ⟨_, rfl, fun K hK => ?_⟩
      have e1 : a.tmps[1]? = some (.int .i64 k) := by rw [ha]; exact (putSel_off rfl).trans rfl
      replace ha := Aside0.mk ha
      have TW := Aside0.mk (Q_TW (hoff 12 (by kernel_rfl)))
      have TB := Aside0.mk (Q_TB (hoff 12 (by kernel_rfl)))
      refine value_ (w1 := w') (v := .int .i64 k) (by rfl) rfl ?_ ?_
      · go_simp
        (try simp only [i64_w])
        try rfl
      refine hK.out _ _ ⟨gb, A1, c1, m11_, m12_, (by rw [ha.out]; exact putSel_upk 5 hb_ rfl rfl rfl), Q_TW, fun h0_ _ => absurd ((hoff 11 (by kernel_rfl)).symm.trans h0_) (by decide), fun h0_ _ => absurd ((hoff 12 (by kernel_rfl)).symm.trans h0_) (by decide), fun h0_ => absurd ((hoff 15 (by kernel_rfl)).symm.trans h0_) (by decide), Q_TB, fun h0_ => absurd ((hoff 11 (by kernel_rfl)).symm.trans h0_) (by decide), fun h0_ => absurd ((hoff 12 (by kernel_rfl)).symm.trans h0_) (by decide)⟩
    refine steps_cons ?_ ?_
    · rintro b a w' ⟨gb, A1, c1, m11_, m12_, ha, Q_TW, Q_GB, Q_PW, Q_TZ, Q_TB, Q_X11_, Q_X12_⟩ hb_ hon hoff
      refine ⟨_, rfl, fun K hK => ?_⟩
      have e5 : a.tmps[5]? = some (.pointer (some ⟨W.heap.size, 0, none⟩)) := by rw [ha]; exact (putSel_off rfl).trans rfl
      replace ha := Aside0.mk ha
      have TW := Aside0.mk (Q_TW (hoff 12 (by kernel_rfl)))
      have TB := Aside0.mk (Q_TB (hoff 12 (by kernel_rfl)))
      refine value_ (w1 := w') (v := .pointer (some ⟨W.heap.size, 3, none⟩)) (by rfl) rfl ?_ ?_
      · go_simp
        (try simp only [i64_w])
        try rfl
      refine hK.out _ _ ⟨gb, A1, c1, m11_, m12_, (by rw [ha.out]; exact putSel_upk 6 hb_ rfl rfl rfl), Q_TW, fun h0_ _ => absurd ((hoff 11 (by kernel_rfl)).symm.trans h0_) (by decide), fun h0_ _ => absurd ((hoff 12 (by kernel_rfl)).symm.trans h0_) (by decide), fun h0_ => absurd ((hoff 15 (by kernel_rfl)).symm.trans h0_) (by decide), Q_TB, fun h0_ => absurd ((hoff 11 (by kernel_rfl)).symm.trans h0_) (by decide), fun h0_ => absurd ((hoff 12 (by kernel_rfl)).symm.trans h0_) (by decide)⟩
    refine steps_cons ?_ ?_
    · rintro b a w' ⟨gb, A1, c1, m11_, m12_, ha, Q_TW, Q_GB, Q_PW, Q_TZ, Q_TB, Q_X11_, Q_X12_⟩ hb_ hon hoff
      refine ⟨_, rfl, fun K hK => ?_⟩
      have e12 : a.tmps[12]? = some (.pointer (some ⟨W.heap.size, 3, none⟩)) := by rw [ha]; exact putSel_on (e := (6, 12, .pointer (some ⟨W.heap.size, 3, none⟩))) 6 rfl rfl (hon 6 (by kernel_rfl)) rfl
      replace ha := Aside0.mk ha
      have TW := Aside0.mk (Q_TW (hoff 12 (by kernel_rfl)))
      have TB := Aside0.mk (Q_TB (hoff 12 (by kernel_rfl)))
      have hc0_ : w'.cell? ⟨W.heap.size, 3, none⟩ = some (.int .i64 t.f3) := (blk_cell TB.out 3).trans rfl
      refine value_ (w1 := w') (v := .int .i64 t.f3) (by rfl) rfl ?_ ?_
      · go_simp
        (try simp only [i64_w])
        try rfl
      refine hK.out _ _ ⟨gb, A1, c1, m11_, m12_, (by rw [ha.out]; exact putSel_upk 7 hb_ rfl rfl rfl), Q_TW, fun h0_ _ => absurd ((hoff 11 (by kernel_rfl)).symm.trans h0_) (by decide), fun h0_ _ => absurd ((hoff 12 (by kernel_rfl)).symm.trans h0_) (by decide), fun h0_ => absurd ((hoff 15 (by kernel_rfl)).symm.trans h0_) (by decide), Q_TB, fun h0_ => absurd ((hoff 11 (by kernel_rfl)).symm.trans h0_) (by decide), fun h0_ => absurd ((hoff 12 (by kernel_rfl)).symm.trans h0_) (by decide)⟩
    refine steps_cons ?_ ?_
    · rintro b a w' ⟨gb, A1, c1, m11_, m12_, ha, Q_TW, Q_GB, Q_PW, Q_TZ, Q_TB, Q_X11_, Q_X12_⟩ hb_ hon hoff
      refine ⟨_, rfl, fun K hK => ?_⟩
      have e5 : a.tmps[5]? = some (.pointer (some ⟨W.heap.size, 0, none⟩)) := by rw [ha]; exact (putSel_off rfl).trans rfl
      replace ha := Aside0.mk ha
      have TW := Aside0.mk (Q_TW (hoff 12 (by kernel_rfl)))
      have TB := Aside0.mk (Q_TB (hoff 12 (by kernel_rfl)))
      refine value_ (w1 := w') (v := .pointer (some ⟨W.heap.size, 4, none⟩)) (by rfl) rfl ?_ ?_
      · go_simp
        (try simp only [i64_w])
        try rfl
      refine hK.out _ _ ⟨gb, A1, c1, m11_, m12_, (by rw [ha.out]; exact putSel_upk 8 hb_ rfl rfl rfl), Q_TW, fun h0_ _ => absurd ((hoff 11 (by kernel_rfl)).symm.trans h0_) (by decide), fun h0_ _ => absurd ((hoff 12 (by kernel_rfl)).symm.trans h0_) (by decide), fun h0_ => absurd ((hoff 15 (by kernel_rfl)).symm.trans h0_) (by decide), Q_TB, fun h0_ => absurd ((hoff 11 (by kernel_rfl)).symm.trans h0_) (by decide), fun h0_ => absurd ((hoff 12 (by kernel_rfl)).symm.trans h0_) (by decide)⟩
    refine steps_cons ?_ ?_
    · rintro b a w' ⟨gb, A1, c1, m11_, m12_, ha, Q_TW, Q_GB, Q_PW, Q_TZ, Q_TB, Q_X11_, Q_X12_⟩ hb_ hon hoff
      refine ⟨_, rfl, fun K hK => ?_⟩
      have e14 : a.tmps[14]? = some (.pointer (some ⟨W.heap.size, 4, none⟩)) := by rw [ha]; exact putSel_on (e := (8, 14, .pointer (some ⟨W.heap.size, 4, none⟩))) 8 rfl rfl (hon 8 (by kernel_rfl)) rfl
      replace ha := Aside0.mk ha
      have TW := Aside0.mk (Q_TW (hoff 12 (by kernel_rfl)))
      have TB := Aside0.mk (Q_TB (hoff 12 (by kernel_rfl)))
      have hc0_ : w'.cell? ⟨W.heap.size, 4, none⟩ = some (.int .i64 t.f4) := (blk_cell TB.out 4).trans rfl
      refine value_ (w1 := w') (v := .int .i64 t.f4) (by rfl) rfl ?_ ?_
      · go_simp
        (try simp only [i64_w])
        try rfl
      refine hK.out _ _ ⟨gb, A1, c1, m11_, m12_, (by rw [ha.out]; exact putSel_upk 9 hb_ rfl rfl rfl), Q_TW, fun h0_ _ => absurd ((hoff 11 (by kernel_rfl)).symm.trans h0_) (by decide), fun h0_ _ => absurd ((hoff 12 (by kernel_rfl)).symm.trans h0_) (by decide), fun h0_ => absurd ((hoff 15 (by kernel_rfl)).symm.trans h0_) (by decide), Q_TB, fun h0_ => absurd ((hoff 11 (by kernel_rfl)).symm.trans h0_) (by decide), fun h0_ => absurd ((hoff 12 (by kernel_rfl)).symm.trans h0_) (by decide)⟩
    refine steps_cons ?_ ?_
    · rintro b a w' ⟨gb, A1, c1, m11_, m12_, ha, Q_TW, Q_GB, Q_PW, Q_TZ, Q_TB, Q_X11_, Q_X12_⟩ hb_ hon hoff
      refine ⟨_, rfl, fun K hK => ?_⟩
      have e11 : a.tmps[11]? = some (.int .i64 k) := by rw [ha]; exact putSel_on (e := (5, 11, .int .i64 k)) 5 rfl rfl (hon 5 (by kernel_rfl)) rfl
      have e13 : a.tmps[13]? = some (.int .i64 t.f3) := by rw [ha]; exact putSel_on (e := (7, 13, .int .i64 t.f3)) 7 rfl rfl (hon 7 (by kernel_rfl)) rfl
      have e15 : a.tmps[15]? = some (.int .i64 t.f4) := by rw [ha]; exact putSel_on (e := (9, 15, .int .i64 t.f4)) 9 rfl rfl (hon 9 (by kernel_rfl)) rfl
      replace ha := Aside0.mk ha
      have TW := Aside0.mk (Q_TW (hoff 12 (by kernel_rfl)))
      have TB := Aside0.mk (Q_TB (hoff 12 (by kernel_rfl)))
      refine value_ (w1 := w') (v := .agg #[.int .i64 k, .string ⟨#[]⟩, .int .i64 0, .int .i64 t.f3, .int .i64 t.f4]) (by rfl) rfl ?_ ?_
      · go_simp
        (try simp only [i64_w])
        try rfl
      refine hK.out _ _ ⟨gb, A1, c1, m11_, m12_, (by rw [ha.out]; exact putSel_upk 10 hb_ rfl rfl rfl), Q_TW, fun h0_ _ => absurd ((hoff 11 (by kernel_rfl)).symm.trans h0_) (by decide), fun h0_ _ => absurd ((hoff 12 (by kernel_rfl)).symm.trans h0_) (by decide), fun h0_ => absurd ((hoff 15 (by kernel_rfl)).symm.trans h0_) (by decide), Q_TB, fun h0_ => absurd ((hoff 11 (by kernel_rfl)).symm.trans h0_) (by decide), fun h0_ => absurd ((hoff 12 (by kernel_rfl)).symm.trans h0_) (by decide)⟩
    refine steps_cons ?_ ?_
    · rintro b a w' ⟨gb, A1, c1, m11_, m12_, ha, Q_TW, Q_GB, Q_PW, Q_TZ, Q_TB, Q_X11_, Q_X12_⟩ hb_ hon hoff
      refine ⟨_, rfl, fun K hK => ?_⟩
      have e16 : a.tmps[16]? = some (.agg #[.int .i64 k, .string ⟨#[]⟩, .int .i64 0, .int .i64 t.f3, .int .i64 t.f4]) := by rw [ha]; exact putSel_on (e := (10, 16, .agg #[.int .i64 k, .string ⟨#[]⟩, .int .i64 0, .int .i64 t.f3, .int .i64 t.f4])) 10 rfl rfl (hon 10 (by kernel_rfl)) rfl
      replace ha := Aside0.mk ha
      have TW := Aside0.mk (Q_TW (hoff 12 (by kernel_rfl)))
      have TB := Aside0.mk (Q_TB (hoff 12 (by kernel_rfl)))
      refine value_ (w1 := w'.alloc (.cells #[.int .i64 k, .string ⟨#[]⟩, .int .i64 0, .int .i64 t.f3, .int .i64 t.f4] 27)) (v := .slice (some ⟨w'.heap.size, 0, none⟩) 1 1) (by rfl) rfl ?_ ?_
      · go_simp
      have hn_ : (w'.alloc (.cells #[.int .i64 k, .string ⟨#[]⟩, .int .i64 0, .int .i64 t.f3, .int .i64 t.f4] 27)).heap[w'.heap.size]? = some (.cells #[.int .i64 k, .string ⟨#[]⟩, .int .i64 0, .int .i64 t.f3, .int .i64 t.f4] 27) := blk_new _ _
      have hbw_ : Below w'.heap.size w' (w'.alloc (.cells #[.int .i64 k, .string ⟨#[]⟩, .int .i64 0, .int .i64 t.f3, .int .i64 t.f4] 27)) := below_alloc (Below.refl _ _) _
      obtain ⟨w2, hw2⟩ : ∃ w2, w2 = w'.alloc (.cells #[.int .i64 k, .string ⟨#[]⟩, .int .i64 0, .int .i64 t.f3, .int .i64 t.f4] 27) := ⟨_, rfl⟩
      rw [← hw2]
      rw [← hw2] at hn_ hbw_
      refine hK.out _ _ ⟨w'.heap.size, A1, c1, (.slice (some ⟨w'.heap.size, 0, none⟩) 1 1), m12_, (by rw [ha.out]; exact putSel_upk 11 hb_ rfl rfl rfl), fun _ => (TW.out.up hbw_), fun _ _ => hn_, fun h0_ _ => absurd ((hoff 12 (by kernel_rfl)).symm.trans h0_) (by decide), fun h0_ => absurd ((hoff 15 (by kernel_rfl)).symm.trans h0_) (by decide), fun _ => (blk_up TB.out hbw_), fun _ => rfl, fun h0_ => absurd ((hoff 12 (by kernel_rfl)).symm.trans h0_) (by decide)⟩
    refine steps_cons ?_ ?_
    · rintro b a w' ⟨gb, A1, c1, m11_, m12_, ha, Q_TW, Q_GB, Q_PW, Q_TZ, Q_TB, Q_X11_, Q_X12_⟩ hb_ hon hoff
      refine ⟨_, rfl, fun K hK => ?_⟩
      have e10 : a.tmps[10]? = some (.slice Ao n co) := by rw [ha]; exact putSel_on (e := (4, 10, .slice Ao n co)) 4 rfl rfl (hon 4 (by kernel_rfl)) rfl
      have e17 : a.tmps[17]? = some (m11_) := by rw [ha]; exact putSel_on (e := (11, 17, m11_)) 11 rfl rfl (hon 11 (by kernel_rfl)) rfl
      rw [Q_X11_ (hon 11 (by kernel_rfl))] at e17
      replace ha := Aside0.mk ha
      have TW := Aside0.mk (Q_TW hb_)
      have GB := Aside0.mk (Q_GB (hon 11 (by kernel_rfl)) hb_)
      have TB := Aside0.mk (Q_TB hb_)
      refine app_ (by rfl) rfl (.tmp 10) (.tmp 17) 22 rfl p.w0.heap.size 27 (.agg #[.int .i64 0, .string ⟨#[]⟩, .int .i64 0, .int .i64 0, .int .i64 0]) 5 48 Try.underlying22 info27 rfl (by decide) (.slice Ao n co) n (out.flatMap cT) (eval_of e10) (by have h_ := TW.out.rO; rw [← HN.out] at h_; exact h_) ⟨gb, 0, none⟩ 1 1 (cT (vt k t)) (eval_of e17) rfl (World.news_of_block GB.out) (cT_one _) (by have h_ := HL.out; rw [← HN.out] at h_; simp only [maxLen]; omega) (by have h_ := HL.out; rw [← HN.out] at h_; omega) TW.out.below.size ?_
      intro v2_ w2 ho_ hg_ hat_
      obtain ⟨A1_, c1_, rfl⟩ := own_slice ho_
      refine hK.out _ _ ⟨gb, A1_, c1_, m11_, (.slice A1_ (n + 1) c1_), (by rw [ha.out]; exact putSel_upk 12 hb_ rfl rfl rfl), fun h0_ => absurd ((up_self b 12).symm.trans h0_) (by decide), fun _ h1_ => absurd ((up_self b 12).symm.trans h1_) (by decide), fun _ _ => ⟨w', TW.out, by rw [← HN.out]; exact ho_, by rw [← HN.out]; exact hg_, by rw [← HN.out]; exact hat_⟩, fun h0_ => absurd ((hoff 15 (by kernel_rfl)).symm.trans h0_) (by decide), fun h0_ => absurd ((up_self b 12).symm.trans h0_) (by decide), Q_X11_, fun _ => rfl⟩
    refine steps_cons ?_ ?_
    · rintro b a w' ⟨gb, A1, c1, m11_, m12_, ha, Q_TW, Q_GB, Q_PW, Q_TZ, Q_TB, Q_X11_, Q_X12_⟩ hb_ hon hoff
      refine ⟨_, rfl, fun K hK => ?_⟩
      have e6 : a.tmps[6]? = some (.pointer (some ⟨g, 0, none⟩)) := by rw [ha]; exact putSel_on (e := (0, 6, .pointer (some ⟨g, 0, none⟩))) 0 rfl rfl (hon 0 (by kernel_rfl)) rfl
      replace ha := Aside0.mk ha
      have PW := Aside0.mk (Q_PW (hon 12 (by kernel_rfl)) (hoff 15 (by kernel_rfl)))
      refine value_ (w1 := w') (v := .pointer (some ⟨g, 0, none⟩)) (by rfl) rfl ?_ ?_
      · go_simp
        (try simp only [i64_w])
        try rfl
      refine hK.out _ _ ⟨gb, A1, c1, m11_, m12_, (by rw [ha.out]; exact putSel_upk 13 hb_ rfl rfl rfl), fun h0_ => absurd ((hon 12 (by kernel_rfl)).symm.trans h0_) (by decide), fun _ h1_ => absurd ((hon 12 (by kernel_rfl)).symm.trans h1_) (by decide), Q_PW, fun h0_ => absurd ((hoff 15 (by kernel_rfl)).symm.trans h0_) (by decide), fun h0_ => absurd ((hon 12 (by kernel_rfl)).symm.trans h0_) (by decide), Q_X11_, Q_X12_⟩
    refine steps_cons ?_ ?_
    · rintro b a w' ⟨gb, A1, c1, m11_, m12_, ha, Q_TW, Q_GB, Q_PW, Q_TZ, Q_TB, Q_X11_, Q_X12_⟩ hb_ hon hoff
      refine ⟨_, rfl, fun K hK => ?_⟩
      have e19 : a.tmps[19]? = some (.pointer (some ⟨g, 0, none⟩)) := by rw [ha]; exact putSel_on (e := (13, 19, .pointer (some ⟨g, 0, none⟩))) 13 rfl rfl (hon 13 (by kernel_rfl)) rfl
      replace ha := Aside0.mk ha
      have PW := Aside0.mk (Q_PW (hon 12 (by kernel_rfl)) (hoff 15 (by kernel_rfl)))
      refine value_ (w1 := w') (v := .pointer (some ⟨g, 1, none⟩)) (by rfl) rfl ?_ ?_
      · go_simp
        (try simp only [i64_w])
        try rfl
      refine hK.out _ _ ⟨gb, A1, c1, m11_, m12_, (by rw [ha.out]; exact putSel_upk 14 hb_ rfl rfl rfl), fun h0_ => absurd ((hon 12 (by kernel_rfl)).symm.trans h0_) (by decide), fun _ h1_ => absurd ((hon 12 (by kernel_rfl)).symm.trans h1_) (by decide), Q_PW, fun h0_ => absurd ((hoff 15 (by kernel_rfl)).symm.trans h0_) (by decide), fun h0_ => absurd ((hon 12 (by kernel_rfl)).symm.trans h0_) (by decide), Q_X11_, Q_X12_⟩
    refine steps_cons ?_ ?_
    · rintro b a w' ⟨gb, A1, c1, m11_, m12_, ha, Q_TW, Q_GB, Q_PW, Q_TZ, Q_TB, Q_X11_, Q_X12_⟩ hb_ hon hoff
      refine ⟨_, rfl, fun K hK => ?_⟩
      have e20 : a.tmps[20]? = some (.pointer (some ⟨g, 1, none⟩)) := by rw [ha]; exact putSel_on (e := (14, 20, .pointer (some ⟨g, 1, none⟩))) 14 rfl rfl (hon 14 (by kernel_rfl)) rfl
      have e18 : a.tmps[18]? = some (m12_) := by rw [ha]; exact putSel_on (e := (12, 18, m12_)) 12 rfl rfl (hon 12 (by kernel_rfl)) rfl
      rw [Q_X12_ (hon 12 (by kernel_rfl))] at e18
      replace ha := Aside0.mk ha
      have PW := Aside0.mk (Q_PW (hon 12 (by kernel_rfl)) hb_)
      have hf_ : w'.frozen? ⟨g, 1, none⟩ = false := by have h_ := PW.out.home.free; rw [hm.ho] at h_; exact h_
      have hc_ : w'.cell? ⟨g, 1, none⟩ = some (.slice Ao out.length co) := by have h_ := PW.out.home.cell; rw [hm.ho] at h_; exact h_
      refine skip_ (w1 := w'.setCell ⟨g, 1, none⟩ (.slice A1 (n + 1) c1)) (by rfl) rfl ?_ ?_
      · go_simp
      refine hK.out _ _ ⟨gb, A1, c1, m11_, m12_, (by rw [ha.out]; exact putSel_none (v := undef) rfl), fun h0_ => absurd ((hon 12 (by kernel_rfl)).symm.trans h0_) (by decide), fun _ h1_ => absurd ((hon 12 (by kernel_rfl)).symm.trans h1_) (by decide), fun _ h1_ => absurd ((up_self b 15).symm.trans h1_) (by decide), fun _ => (by have h_ := PW.out.store; rw [hm.ho] at h_; exact h_), fun h0_ => absurd ((hon 12 (by kernel_rfl)).symm.trans h0_) (by decide), Q_X11_, Q_X12_⟩
    exact steps_nil
  rintro b a w3 hall ⟨gb, A1, c1, m11_, m12_, ha, Q_TW, Q_GB, Q_PW, Q_TZ, Q_TB, Q_X11_, Q_X12_⟩
  have hb0_ := hall 0 (by kernel_rfl)
  have hb1_ := hall 1 (by kernel_rfl)
  have hb2_ := hall 2 (by kernel_rfl)
  have hb3_ := hall 3 (by kernel_rfl)
  have hb4_ := hall 4 (by kernel_rfl)
  have hb5_ := hall 5 (by kernel_rfl)
  have hb6_ := hall 6 (by kernel_rfl)
  have hb7_ := hall 7 (by kernel_rfl)
  have hb8_ := hall 8 (by kernel_rfl)
  have hb9_ := hall 9 (by kernel_rfl)
  have hb10_ := hall 10 (by kernel_rfl)
  have hb11_ := hall 11 (by kernel_rfl)
  have hb12_ := hall 12 (by kernel_rfl)
  have hb13_ := hall 13 (by kernel_rfl)
  have hb14_ := hall 14 (by kernel_rfl)
  have hb15_ := hall 15 (by kernel_rfl)
  subst ha
  obtain rfl := Q_X11_ hb11_
  obtain rfl := Q_X12_ hb12_
  simp only [putSel, hb0_, hb1_, hb2_, hb3_, hb4_, hb5_, hb6_, hb7_, hb8_, hb9_, hb10_, hb11_, hb12_, hb13_, hb14_, hb15_, if_true, Act.put, List.setIfInBounds_toArray, List.set_cons_zero, List.set_cons_succ]
  clear Q_TW
  clear Q_GB
  clear Q_PW
  have TZ := Aside0.mk (Q_TZ hb15_)
  clear Q_TZ
  clear Q_TB
  clear hall hb0_ hb1_ hb2_ hb3_ hb4_ hb5_ hb6_ hb7_ hb8_ hb9_ hb10_ hb11_ hb12_ hb13_ hb14_ hb15_
  have TZ' := Go.Lib.hid TZ.out
  clear TZ HT_ HW_ hHeld H0 HB0
  go_wp2_with fail
  refine bodyPost_end (results_none rfl _ _ _) rfl ?_
  exact ⟨rfl, TZ'.out⟩
end Go.Proofs.Ytchbjjefjmcakaa.Lb
