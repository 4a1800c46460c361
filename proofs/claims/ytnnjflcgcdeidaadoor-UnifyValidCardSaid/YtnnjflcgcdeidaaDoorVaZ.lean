import Derived.Test.YtnnjflcgcdeidaaDoorVaA
import Derived.Deep.RegionHeld3
namespace Go.Proofs.YtnnjflcgcdeidaaDoor.Va
open Go.RowKit Go.Proofs.YtnnjflcgcdeidaaDoor.PUnifyValid Go.Proofs.YtnnjflcgcdeidaaDoorW.PrintWords Go.Proofs.YtnnjflcgcdeidaaDoorW.PrintLast Go.Proofs.YtnnjflcgcdeidaaDoorW.PrintMore
set_option linter.unusedVariables false
theorem lp_good (G : S24 → Bool → Int → Int → Int × Int) (rd : Int → S24 → Bool) (d : Int) : ∀ (L : List S24), (∀ y ∈ L, Good (G y)) → ∀ i l, 0 ≤ l → l ≤ 4096 → (lp G rd d L i l).1 ≤ 4096 ∧ ((lp G rd d L i l).2 = 0 → 0 ≤ (lp G rd d L i l).1)
  | [], _, i, l, h0, h1 => ⟨h1, fun _ => h0⟩
  | y :: ys, hG, i, l, h0, h1 => by
    have hy := hG y (List.mem_cons_self ..) (rd i y) (d + 1) l h0 h1
    rw [lp]
    by_cases hq : (G y (rd i y) (d + 1) l).2 = 0
    · rw [if_pos hq]
      exact lp_good G rd d ys (fun z hz => hG z (List.mem_cons_of_mem _ hz)) (i + 1) _ (hy.2 hq) hy.1
    · rw [if_neg hq]
      exact hy

theorem step_good (G : S24 → Bool → Int → Int → Int × Int) (K V : Int) (N : ByteArray) (L : List S24) (hG : ∀ y ∈ L, Good (G y)) : Good (step G K V N L) := by
  intro row d l h0 h1
  unfold step
  split
  · exact ⟨by simp; omega, fun h => absurd h (by simp)⟩
  split
  · exact ⟨by simp; omega, fun h => absurd h (by simp)⟩
  split
  · exact ⟨by simp; omega, fun h => absurd h (by simp)⟩
  split
  · exact ⟨by simp; omega, fun h => absurd h (by simp)⟩
  split
  · exact ⟨by simp; omega, fun h => absurd h (by simp)⟩
  rename_i hn _ _ _ _
  exact lp_good G _ d L hG 0 (l - 1) (by omega) (by omega)

theorem check_calls {w : World} {x : S24} {g : Bool → Int → Int → Int × Int} (hg : Chk x g) {A : Option Addr} {c : Nat} (hT : Tab w) (hC : k24.C w A x.f3.length x.f3) :
    Calls Tryd.prog 6 #[.agg #[.int .i64 x.f0, .string x.f1, .int .i64 x.f2, .slice A x.f3.length c]] w fun e w' => e = .returned (.int .i64 (g false 1 4096).2) ∧ Below w.heap.size w w' := by
  have HT := Go.Lib.hid hT
  have HC := Go.Lib.hid hC
  have HG := Go.Lib.hid hg
  clear hT hC hg
  go_enter Tryd.func6, Tryd.ntmps6
  go_wp2_with fail
  refine (HG.out w _ (w.heap.size + 1) A c false 1 4096 HT.out HC.out (((Below.refl w.heap.size w).alloc (Nat.le_refl _) _).alloc (by simp) _) (by omega) (by simpa using blk_new (w.alloc _) _) (by omega) (by omega) (by omega) (by omega)).mono ?_
  rintro e w1 ⟨rfl, _, hk⟩
  go_wp2_with fail
  go_ret
  exact ⟨rfl, Kb.below hk (((Below.refl w.heap.size w).alloc (Nat.le_refl _) _).alloc (by simp) _) (by omega)⟩
theorem checkRow_calls {w : World} {x : S24} {g : Bool → Int → Int → Int × Int} (hg : Chk x g) {A : Option Addr} {c : Nat} (hT : Tab w) (hC : k24.C w A x.f3.length x.f3) :
    Calls Tryd.prog 8 #[.agg #[.int .i64 x.f0, .string x.f1, .int .i64 x.f2, .slice A x.f3.length c]] w fun e w' => e = .returned (.int .i64 (g true 1 4096).2) ∧ Below w.heap.size w w' := by
  have HT := Go.Lib.hid hT
  have HC := Go.Lib.hid hC
  have HG := Go.Lib.hid hg
  clear hT hC hg
  go_enter Tryd.func8, Tryd.ntmps8
  go_wp2_with fail
  refine (HG.out w _ (w.heap.size + 1) A c true 1 4096 HT.out HC.out (((Below.refl w.heap.size w).alloc (Nat.le_refl _) _).alloc (by simp) _) (by omega) (by simpa using blk_new (w.alloc _) _) (by omega) (by omega) (by omega) (by omega)).mono ?_
  rintro e w1 ⟨rfl, _, hk⟩
  go_wp2_with fail
  go_ret
  exact ⟨rfl, Kb.below hk (((Below.refl w.heap.size w).alloc (Nat.le_refl _) _).alloc (by simp) _) (by omega)⟩
theorem error_calls {w : World} {x : S24} {g : Bool → Int → Int → Int × Int} (hg : Ref x g) {A : Option Addr} {c : Nat} (row : Bool) (hC : k24.C w A x.f3.length x.f3) :
    Calls Tryd.prog 7 #[.agg #[.int .i64 x.f0, .string x.f1, .int .i64 x.f2, .slice A x.f3.length c], .bool row] w fun e w' => e = .returned (.int .i64 (g row 1 4096).2) ∧ Below w.heap.size w w' := by
  have HC := Go.Lib.hid hC
  have HG := Go.Lib.hid hg
  clear hC hg
  go_enter Tryd.func7, Tryd.ntmps7
  go_wp2_with fail
  refine (HG.out _ A c row 1 0 (Kd.C_below HC.out ((Below.refl w.heap.size w).alloc (Nat.le_refl _) _)) (by omega) (by omega) (by omega) (by omega)).mono ?_
  rintro e w1 ⟨rfl, hk⟩
  go_wp2_with fail
  go_ret
  exact ⟨rfl, ((Below.refl w.heap.size w).alloc (Nat.le_refl _) _).trans (hk.mono (by simp))⟩

/-- What a world keeps: the argument's box, and all that was there before. -/
def Rest (w : World) (x : S24) (A : Option Addr) (c : Nat) (w' : World) : Prop := Below w.heap.size w w' ∧ w'.heap[w.heap.size]? = some (.cells #[.int .i64 x.f0, .string x.f1, .int .i64 x.f2, .slice A x.f3.length c] 24 (0, 0))
theorem rest_below {w w1 w2 : World} {x : S24} {A : Option Addr} {c : Nat} (h : Hid (Rest w x A c w1)) (hb : Below w1.heap.size w1 w2) : Hid (Rest w x A c w2) :=
  Go.Lib.hid ⟨h.out.1.trans (hb.mono h.out.1.size), blk_below h.out.2 hb⟩
theorem rest_drew {w w1 : World} {x : S24} {A : Option Addr} {c : Nat} (h : Hid (Rest w x A c w1)) : Hid (Rest w x A c w1.drew) := rest_below h (below_drew1 (Below.refl _ _))
theorem rest_tab {w w1 : World} {x : S24} {A : Option Addr} {c : Nat} (hT : Hid (Tab w)) (h : Hid (Rest w x A c w1)) : Tab w1 := hT.out.lift h.out.1
theorem rest_C {w w1 : World} {x : S24} {A : Option Addr} {c : Nat} (hC : Hid (k24.C w A x.f3.length x.f3)) (h : Hid (Rest w x A c w1)) : k24.C w1 A x.f3.length x.f3 := Kd.C_below hC.out h.out.1
theorem rest_S {w w1 : World} {x : S24} {A : Option Addr} {c : Nat} (h : Hid (Rest w x A c w1)) :
    w1.cell? ⟨w.heap.size, 0, none⟩ = some (.int .i64 x.f0) ∧ w1.cell? ⟨w.heap.size, 1, none⟩ = some (.string x.f1) ∧ w1.cell? ⟨w.heap.size, 2, none⟩ = some (.int .i64 x.f2) ∧ w1.cell? ⟨w.heap.size, 3, none⟩ = some (.slice A x.f3.length c) ∧ Hid (Rest w x A c w1) :=
  ⟨(blk_cell h.out.2 0).trans rfl, (blk_cell h.out.2 1).trans rfl, (blk_cell h.out.2 2).trans rfl, (blk_cell h.out.2 3).trans rfl, h⟩

set_option maxRecDepth 100000 in
theorem law_calls {w : World} {x : S24} {g g3 : Bool → Int → Int → Int × Int} (hg : Chk x g) (hr : Ref x g) (h3 : Chk ⟨3, ⟨#[]⟩, 0, []⟩ g3) (h33 : (g3 false 1 4096).2 = 3) {A : Option Addr} {c : Nat} (hT : Tab w) (hC : k24.C w A x.f3.length x.f3) :
    Calls Tryd.prog 3 #[.agg #[.int .i64 x.f0, .string x.f1, .int .i64 x.f2, .slice A x.f3.length c]] w fun e w' => e = .returned (.bool true) ∧ Below w.heap.size w w' := by
  have HT := Go.Lib.hid hT
  have HC := Go.Lib.hid hC
  have HG := Go.Lib.hid hg
  have HR := Go.Lib.hid hr
  have H3 := Go.Lib.hid h3
  have H33 := Go.Lib.hid h33
  clear hT hC hg hr h3 h33
  go_enter Tryd.func3, Tryd.ntmps3
  go_wp2_with fail
  refine (check_calls (x := ⟨3, ⟨#[]⟩, 0, []⟩) H3.out (A := none) (c := 0) (HT.out.lift ((Below.refl w.heap.size w).alloc (Nat.le_refl _) _)) (Kd.C_nil _ _)).mono ?_
  rintro e w1 ⟨rfl, hb1⟩
  rw [H33.out]
  have B1 : Hid (Below w.heap.size w w1) := Go.Lib.hid (((Below.refl w.heap.size w).alloc (Nat.le_refl _) _).trans (hb1.mono (by simp)))
  have X1 := Go.Lib.hid (blk_below (blk_new w _) hb1)
  clear hb1
  have R1 : Hid (Rest w x A c w1) := Go.Lib.hid ⟨B1.out, X1.out⟩
  go_wp2_with fail
  go_region_held3 (fun w' => w'.cell? ⟨w.heap.size, 0, none⟩ = some (.int .i64 x.f0) ∧ w'.cell? ⟨w.heap.size, 1, none⟩ = some (.string x.f1) ∧ w'.cell? ⟨w.heap.size, 2, none⟩ = some (.int .i64 x.f2) ∧ w'.cell? ⟨w.heap.size, 3, none⟩ = some (.slice A x.f3.length c) ∧ Hid (Rest w x A c w')) (first | exact rest_S hNew | exact rest_S (rest_drew R1)) (first
    | (go_at_call 6; refine (check_calls HG.out (rest_tab HT (‹_ ∧ _ ∧ _ ∧ _ ∧ Hid (Rest w x A c _)›).2.2.2.2) (rest_C HC (‹_ ∧ _ ∧ _ ∧ _ ∧ Hid (Rest w x A c _)›).2.2.2.2)).mono ?_; rintro e wn ⟨rfl, hbn⟩; have hNew := rest_below (‹_ ∧ _ ∧ _ ∧ _ ∧ Hid (Rest w x A c _)›).2.2.2.2 hbn; clear hbn)
    | (go_at_call 8; refine (checkRow_calls HG.out (rest_tab HT (‹_ ∧ _ ∧ _ ∧ _ ∧ Hid (Rest w x A c _)›).2.2.2.2) (rest_C HC (‹_ ∧ _ ∧ _ ∧ _ ∧ Hid (Rest w x A c _)›).2.2.2.2)).mono ?_; rintro e wn ⟨rfl, hbn⟩; have hNew := rest_below (‹_ ∧ _ ∧ _ ∧ _ ∧ Hid (Rest w x A c _)›).2.2.2.2 hbn; clear hbn)
    | (go_at_call 7; refine (error_calls HR.out _ (rest_C HC (‹_ ∧ _ ∧ _ ∧ _ ∧ Hid (Rest w x A c _)›).2.2.2.2)).mono ?_; rintro e wn ⟨rfl, hbn⟩; have hNew := rest_below (‹_ ∧ _ ∧ _ ∧ _ ∧ Hid (Rest w x A c _)›).2.2.2.2 hbn; clear hbn))
  go_wp2_with fail
  go_ret
  exact ⟨rfl, hNew.out.1⟩
end Go.Proofs.YtnnjflcgcdeidaaDoor.Va
