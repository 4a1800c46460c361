/- The law's walk. -/
import Derived.Test.YtchbjjefjmcakaaLq
import Derived.Test.YtchbjjefjmcakaaLs
namespace Go.Proofs.Ytchbjjefjmcakaa.Lb
open Go.RowKit Go.Proofs.Ytchbjjefjmcakaa.PLayoutBlocks Go.Proofs.YtchbjjefjmcakaaW.PrintWords Go.Proofs.YtchbjjefjmcakaaW.PrintLast Go.Proofs.YtchbjjefjmcakaaW.PrintMore
set_option linter.unusedVariables false
set_option linter.unusedSimpArgs false
theorem sz_go (l : List S27) : ∀ d i x, sz (goM l d i x) ≤ sz x + 5 * d := by
  intro d
  induction d with
  | zero => intro i x; exact Nat.le_refl _
  | succ d ih =>
    intro i x
    have h1 := sz_open (opI i (tk l ((i : Int) - 1))) (fiB i (tk l ((i : Int) - 1)) (tk l (i : Int))) (tk l ((i : Int) - 1)) (tk l (i : Int)) x
    rw [goM]
    generalize openM (opI i (tk l ((i : Int) - 1))) (fiB i (tk l ((i : Int) - 1)) (tk l (i : Int))) (tk l ((i : Int) - 1)) (tk l (i : Int)) x = y at *
    split
    · omega
    · have h2 := sz_rest y.2 (tk l (i : Int)) y.1
      have h3 := ih (i + 1) (restM y.2 (tk l (i : Int)) y.1)
      omega
theorem clR_len (t : S27) : ∀ (r : List Fr) (o : List S27), (clR t r o).length ≤ o.length + r.length
  | [], o => Nat.le_refl _
  | c :: r, o => by
    unfold clR
    have h := clR_len t r (if 0 < c.1 then o ++ [vt 7 t] else o)
    rw [List.length_cons]
    split at h <;> split <;> simp_all <;> omega
theorem mark_len (l : List S27) : (markL l).length ≤ 5 * l.length + 1 := by
  unfold markL
  have h1 := sz_go l l.length 0 ([], [])
  have h2 := clR_len (tk l ((l.length : Int) - 1)) (goM l l.length 0 ([], [])).1 (goM l l.length 0 ([], [])).2
  rw [List.length_append, List.length_singleton]
  unfold sz at h1
  simp only [List.length_nil] at h1
  omega
theorem own_rd {base c : Nat} {A : Option Addr} {x : List S27} {W : World} (h : W.ownsRow base 27 5 (.slice A x.length c) x.length (x.flatMap cT)) (hl : x.length < 1000000) : RdT W A x ∧ x.length ≤ c := by
  refine ⟨⟨rfl, by omega, fun hpos => ?_⟩, own_cap h⟩
  rcases h.2 with ⟨_, h0⟩ | ⟨g, cap, cur, e0, _⟩
  · omega
  · injection e0 with e1 _ e3
    subst e1 e3
    have hc := h.cells (g := g) rfl
    refine ⟨_, rfl, fun j q hj => ⟨cT q, rfl, k27_mk W q, fun i u hu => ?_⟩⟩
    have hi : i < 5 := by
      have := (List.getElem?_eq_some_iff.1 hu).1
      simpa [cT] using this
    have h2 := hc (j * 5 + i) u (by rw [flat_at cT_len x j q i hj hi]; exact hu)
    exact h2
/-- The one token of the first call. -/
def eT : S27 := ⟨9, ⟨#[]⟩, 0, 1, 1⟩
theorem eT_ok : tokE [eT] = 0 := by kernel_rfl
theorem eT_len : (markL [eT]).length = 1 := by kernel_rfl
theorem ck_calls (l : List S27) (A : Option Addr) (c : Nat) (w : World) (hR : RdT w A l) (hc : l.length ≤ c) : Calls Try.prog 6 #[.slice A l.length c] w fun e w' => e = .returned (.int .i64 (tokE l)) ∧ Below w.heap.size w w' :=
  layout_Check.calls _ A c l _ w hR hc (ck_f l)
theorem te_calls (l : List S27) (A : Option Addr) (c : Nat) (w : World) (hR : RdT w A l) (hc : l.length ≤ c) : Calls Try.prog 5 #[.slice A l.length c] w fun e w' => e = .returned (.int .i64 (tokE l)) ∧ Below w.heap.size w w' :=
  provenancelaw1_tokensError.calls _ A c l _ w hR hc (te_f l)
set_option maxRecDepth 100000 in
theorem mark_err (l : List S27) (A : Option Addr) (c : Nat) (w : World) (hR : RdT w A l) (hc : l.length ≤ c) (he : tokE l ≠ 0) :
    Calls Try.prog 4 #[.slice A l.length c] w fun e w' => e = .returned (.tuple #[.slice none 0 0, .int .i64 (tokE l)]) ∧ Below w.heap.size w w' := by
  have HC := Go.Lib.hid (ck_calls l A c w hR hc)
  generalize tokE l = er at *
  have h0 : (er != 0) = true := bne_iff_ne.mpr he
  have h1 : (er == 0) = false := beq_eq_false_iff_ne.mpr he
  clear hR hc he
  go_enter Try.func4, Try.ntmps4
  go_wp2_with fail
  refine HC.out.mono ?_
  rintro e w1 ⟨rfl, hb1⟩
  have HB1 := Go.Lib.hid hb1
  clear hb1 HC
  go_wp2_with fail
  go_ret2
  exact ⟨rfl, HB1.out⟩
theorem mark_good (l : List S27) (A : Option Addr) (c : Nat) (w : World) (hR : RdT w A l) (hc : l.length ≤ c) (he : tokE l = 0) :
    Calls Try.prog 4 #[.slice A l.length c] w fun e w' => (∃ (A' : Option Addr) (c' : Nat), e = .returned (.tuple #[.slice A' (markL l).length c', .int .i64 0]) ∧ w'.ownsRow w.heap.size 27 5 (.slice A' (markL l).length c') (markL l).length ((markL l).flatMap cT)) ∧ Below w.heap.size w w' :=
  mark_ok l A c w hR (tok_good l he).1 (fun W hW => by have h := ck_calls l A c W (hR.up hW) hc; rw [he] at h; exact h)
theorem first_rd (w : World) : RdT (w.alloc (.cells #[.int .i64 9, .string ⟨#[]⟩, .int .i64 0, .int .i64 1, .int .i64 1] 27)) (some ⟨w.heap.size, 0, none⟩) [eT] := by
  have h := blk_new w (.cells #[.int .i64 9, .string ⟨#[]⟩, .int .i64 0, .int .i64 1, .int .i64 1] 27)
  refine ⟨rfl, by decide, fun _ => ⟨_, rfl, fun j q hj => ?_⟩⟩
  have hj0 : j = 0 := by
    have := (List.getElem?_eq_some_iff.1 hj).1
    simpa using this
  subst hj0
  obtain rfl : q = eT := by simpa using hj.symm
  refine ⟨cT eT, rfl, k27_mk _ eT, fun i u hu => ?_⟩
  rw [add_plain]
  have hi : i < 5 := by
    have := (List.getElem?_eq_some_iff.1 hu).1
    simpa [cT] using this
  rw [blk_cell h]
  match i, hi, hu with
  | 0, _, hu => exact hu
  | 1, _, hu => exact hu
  | 2, _, hu => exact hu
  | 3, _, hu => exact hu
  | 4, _, hu => exact hu
theorem eq_calls (x : List S27) (hl : x.length < 1000000) (A B : Option Addr) (c d : Nat) (w : World) (hA : RdT w A x) (hc : x.length ≤ c) (hB : RdT w B x) (hd : x.length ≤ d) :
    Calls Try.prog 7 #[.slice A x.length c, .slice B x.length d] w fun e w' => e = .returned (.bool true) ∧ Below w.heap.size w w' :=
  (api_Token.calls (x.length + 1) A c x B d x true w hA hc hB hd (eq_f x hl)).mono fun e w' h => ⟨h.1, h.2.below⟩
set_option maxHeartbeats 4000000 in
set_option maxRecDepth 100000 in
theorem law_calls (l : List S27) (A : Option Addr) (c : Nat) (w : World) (hR : RdT w A l) (hc : l.length ≤ c) :
    Calls Try.prog 3 #[.slice A l.length c] w fun e w' => e = .returned (.bool true) ∧ Below w.heap.size w w' := by
  have HR := Go.Lib.hid hR
  have HC := Go.Lib.hid hc
  clear hR hc
  have HM1 := Go.Lib.hid (mark_good [eT] (some ⟨w.heap.size, 0, none⟩) 1 _ (first_rd w) (Nat.le_refl _) eT_ok)
  rw [eT_len] at HM1
  have hlen0 : (0 : Int) ≤ (l.length : Int) := by omega
  go_enter Try.func3, Try.ntmps3
  go_wp2_with fail
  refine HM1.out.mono ?_
  rintro e w1 ⟨⟨A1, c1, rfl, _⟩, hb1⟩
  have HB1 := Go.Lib.hid ((below_alloc (Below.refl w.heap.size w) _).trans (hb1.mono (by simp)))
  clear hb1 HM1
  by_cases he : tokE l = 0
  · have HE := Go.Lib.hid he
    have HM := Go.Lib.hid (mark_good l A c w1 (HR.out.up HB1.out) HC.out he)
    have HML := Go.Lib.hid (show (markL l).length < 1000000 from by
      have h1 := mark_len l
      have h2 := (tok_good l he).1.le
      omega)
    have HLE := Go.Lib.hid (show layL l = markL l from by
      obtain ⟨h1, h2, h3⟩ := tok_good l he
      exact lay_eq l h1.pos h1.col h2 h3)
    clear he
    go_wp2_with fail
    refine HM.out.mono ?_
    rintro e w2 ⟨⟨A2, c2, rfl, ho⟩, hb2⟩
    have HB2 := Go.Lib.hid (HB1.out.trans (hb2.mono HB1.out.size))
    have HO := Go.Lib.hid (own_rd ho HML.out)
    clear hb2 ho HM
    go_wp2_with fail
    refine (te_calls l A c w2 (HR.out.up HB2.out) HC.out).mono ?_
    rintro e w3 ⟨rfl, hb3⟩
    rw [HE.out]
    have HB3 := Go.Lib.hid (HB2.out.trans (hb3.mono HB2.out.size))
    have HO := Go.Lib.hid (show RdT w3 A2 (markL l) ∧ (markL l).length ≤ c2 from ⟨HO.out.1.up hb3, HO.out.2⟩)
    clear hb3
    go_wp2_with fail
    refine (ck_calls l A c w3 (HR.out.up HB3.out) HC.out).mono ?_
    rintro e w4 ⟨rfl, hb4⟩
    rw [HE.out]
    have HB4 := Go.Lib.hid (HB3.out.trans (hb4.mono HB3.out.size))
    have HO := Go.Lib.hid (show RdT w4 A2 (markL l) ∧ (markL l).length ≤ c2 from ⟨HO.out.1.up hb4, HO.out.2⟩)
    clear hb4
    go_wp2_with fail
    refine (layout_ok l A c w4 (HR.out.up HB4.out) (tok_good l HE.out).1).mono ?_
    rintro e w5 ⟨⟨A5, c5, rfl, ho5⟩, hb5⟩
    rw [HLE.out] at ho5 ⊢
    have HB5 := Go.Lib.hid (HB4.out.trans (hb5.mono HB4.out.size))
    have HO := Go.Lib.hid (show RdT w5 A2 (markL l) ∧ (markL l).length ≤ c2 from ⟨HO.out.1.up hb5, HO.out.2⟩)
    have HO5 := Go.Lib.hid (own_rd ho5 HML.out)
    clear hb5 ho5
    go_wp2_with fail
    refine (eq_calls (markL l) HML.out A2 A5 c2 c5 w5 HO.out.1 HO.out.2 HO5.out.1 HO5.out.2).mono ?_
    rintro e w6 ⟨rfl, hb6⟩
    have HB6 := Go.Lib.hid (HB5.out.trans (hb6.mono HB5.out.size))
    clear hb6
    go_wp2_with fail
    go_ret
    exact ⟨rfl, HB6.out⟩
  · have HM := Go.Lib.hid (mark_err l A c w1 (HR.out.up HB1.out) HC.out he)
    have HT := Go.Lib.hid (te_calls l A c)
    have HK := Go.Lib.hid (ck_calls l A c)
    generalize tokE l = er at *
    have h0 : (er != 0) = true := bne_iff_ne.mpr he
    have h1 : (er == 0) = false := beq_eq_false_iff_ne.mpr he
    have h2 : (er != er) = false := by simp
    have h3 : (er == er) = true := by simp
    clear he
    go_wp2_with fail
    refine HM.out.mono ?_
    rintro e w2 ⟨rfl, hb2⟩
    have HB2 := Go.Lib.hid (HB1.out.trans (hb2.mono HB1.out.size))
    clear hb2 HM
    go_wp2_with fail
    refine (HT.out w2 (HR.out.up HB2.out) HC.out).mono ?_
    rintro e w3 ⟨rfl, hb3⟩
    have HB3 := Go.Lib.hid (HB2.out.trans (hb3.mono HB2.out.size))
    clear hb3
    go_wp2_with fail
    refine (HK.out w3 (HR.out.up HB3.out) HC.out).mono ?_
    rintro e w4 ⟨rfl, hb4⟩
    have HB4 := Go.Lib.hid (HB3.out.trans (hb4.mono HB3.out.size))
    clear hb4
    go_wp2_with fail
    go_ret
    exact ⟨rfl, HB4.out⟩
end Go.Proofs.Ytchbjjefjmcakaa.Lb
