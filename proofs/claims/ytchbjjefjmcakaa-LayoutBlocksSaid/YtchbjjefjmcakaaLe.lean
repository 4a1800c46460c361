/- The marker's shut and line. -/
import Derived.Test.YtchbjjefjmcakaaLd
import Derived.Deep.RegionHeld3
namespace Go.Proofs.Ytchbjjefjmcakaa.Lb
open Go.RowKit Go.Proofs.Ytchbjjefjmcakaa.PLayoutBlocks Go.Proofs.YtchbjjefjmcakaaW.PrintWords Go.Proofs.YtchbjjefjmcakaaW.PrintLast Go.Proofs.YtchbjjefjmcakaaW.PrintMore
set_option linter.unusedVariables false
set_option linter.unusedSimpArgs false
/-- The blocks above the innermost bracket are ended. -/
def shutR (t : S27) : List Fr → List S27 → List Fr × List S27
  | [], out => ([], out)
  | c :: r, out => if 0 < c.1 then shutR t r (out ++ [vt 7 t]) else (c :: r, out)
/-- The blocks right of a column are ended. -/
def lineR (t : S27) : List Fr → List S27 → List Fr × List S27
  | [], out => ([], out)
  | c :: r, out => if t.f4 < c.1 then lineR t r (out ++ [vt 7 t]) else (c :: r, out)
def TwoR (p : Pm) (x : List Fr × List S27) (W : World) : Prop := TwoE p x.1.reverse x.2 W
/-- The token's box. -/
structure Box (W : World) (b : Nat) (t : S27) : Prop where
  c0 : W.cell? ⟨b, 0, none⟩ = some (.int .i64 t.f0)
  c1 : W.cell? ⟨b, 1, none⟩ = some (.string t.f1)
  c2 : W.cell? ⟨b, 2, none⟩ = some (.int .i64 t.f2)
  c3 : W.cell? ⟨b, 3, none⟩ = some (.int .i64 t.f3)
  c4 : W.cell? ⟨b, 4, none⟩ = some (.int .i64 t.f4)
theorem box_of {W : World} {b : Nat} {t : S27} (h : W.heap[b]? = some (tO t)) : Box W b t :=
  ⟨(blk_cell h 0).trans rfl, (blk_cell h 1).trans rfl, (blk_cell h 2).trans rfl, (blk_cell h 3).trans rfl, (blk_cell h 4).trans rfl⟩
theorem Mkr.more {p : Pm} {g t : Nat} {W0 : World} (h : Mkr p g) : Mkr (p.more t W0) g := ⟨h.hs, h.ho, h.es⟩
/-- All that a method's loop knows of its own box. -/
def In (p : Pm) (W0 : World) (t : S27) (st : List Fr) (out : List S27) (W : World) : Prop := TwoE (p.more W0.heap.size (W0.alloc (tO t))) st out W
theorem In.box {p : Pm} {W0 W : World} {t : S27} {st : List Fr} {out : List S27} (h : In p W0 t st out W) : Box W W0.heap.size t := by
  obtain ⟨As, cs, Ao, co, h⟩ := h
  exact box_of (h.box (blk_new W0 (tO t)))
theorem In.start {p : Pm} {W : World} {t : S27} {st : List Fr} {out : List S27} (h : TwoE p st out W) : In p W t st out (W.alloc (tO t)) := by
  obtain ⟨As, cs, Ao, co, h⟩ := h
  exact ⟨As, cs, Ao, co, h.more (tO t)⟩
theorem In.up {p : Pm} {W0 W W' : World} {t : S27} {st : List Fr} {out : List S27} (h : In p W0 t st out W) (hb : Below W.heap.size W W') : In p W0 t st out W' := by
  obtain ⟨As, cs, Ao, co, h⟩ := h
  exact ⟨As, cs, Ao, co, h.up hb⟩
theorem TwoE.up {p : Pm} {W W' : World} {st : List Fr} {out : List S27} (h : TwoE p st out W) (hb : Below W.heap.size W W') : TwoE p st out W' := by
  obtain ⟨As, cs, Ao, co, h⟩ := h
  exact ⟨As, cs, Ao, co, h.up hb⟩
theorem In.done {p : Pm} {W0 W : World} {t : S27} {st0 st : List Fr} {out0 out : List S27} (h0 : TwoE p st0 out0 W0) (h : In p W0 t st out W) : TwoE p st out W := by
  obtain ⟨As, cs, Ao, co, h⟩ := h
  obtain ⟨As0, cs0, Ao0, co0, h0⟩ := h0
  exact ⟨As, cs, Ao, co, h0.back' h⟩
theorem field0 (a : Int) (b : ByteArray) (w : World) : (Instr.field 41 (.agg #[.int .i64 a, .string b]) 0).run Try.prog w = .ok (.int .i64 a) w := by kernel_rfl
theorem field1 (a : Int) (b : ByteArray) (w : World) : (Instr.field 41 (.agg #[.int .i64 a, .string b]) 1).run Try.prog w = .ok (.string b) w := by kernel_rfl
/-- The methods' contracts, without addresses. -/
theorem topE {p : Pm} {g : Nat} (hm : Mkr p g) {st : List Fr} {out : List S27} {W : World} (h : TwoE p st out W) (hl : st.length < 1000000) :
    Calls Try.prog 15 #[.pointer (some ⟨g, 0, none⟩)] W fun e w' => e = .returned (.agg #[.int .i64 (tp st).1, .string (tp st).2]) ∧ Below W.heap.size W w' := by
  obtain ⟨As, cs, Ao, co, h⟩ := h
  exact top_calls hm h hl
theorem popE {p : Pm} {g : Nat} (hm : Mkr p g) {l : List Fr} {y : Fr} {out : List S27} {W : World} (h : TwoE p (l ++ [y]) out W) (hl : (l ++ [y]).length < 1000000) :
    Calls Try.prog 16 #[.pointer (some ⟨g, 0, none⟩)] W fun e w' => e = .returned (.tuple #[]) ∧ TwoE p l out w' := by
  obtain ⟨As, cs, Ao, co, h⟩ := h
  exact (pop_calls hm h hl).mono fun e w' ⟨h1, h2⟩ => ⟨h1, _, _, _, _, h2⟩
theorem putE {p : Pm} {g : Nat} (hm : Mkr p g) (k : Int) (t : S27) {st : List Fr} {out : List S27} {W : World} (h : TwoE p st out W) (hl : out.length < 1000000) :
    Calls Try.prog 12 #[.pointer (some ⟨g, 0, none⟩), .int .i64 k, tV t] W fun e w' => e = .returned (.tuple #[]) ∧ TwoE p st (out ++ [vt k t]) w' := by
  obtain ⟨As, cs, Ao, co, h⟩ := h
  exact put_calls hm k t h hl
set_option maxRecDepth 100000 in
theorem shut_calls {p : Pm} {g : Nat} (hm : Mkr p g) (t : S27) {st : List Fr} {out : List S27} {W : World} (h : TwoE p st out W) (hl : out.length + st.length < 1000000) :
    Calls Try.prog 24 #[.pointer (some ⟨g, 0, none⟩), tV t] W fun e w' => e = .returned (.tuple #[]) ∧ TwoR p (shutR t st.reverse out) w' := by
  have HM := Go.Lib.hid hm
  have F0 := field0
  have H0 := Go.Lib.hid h
  have HI := Go.Lib.hid (In.start (t := t) h)
  have HL := Go.Lib.hid hl
  clear h hl hm
  go_enter Try.func24, Try.ntmps24
  go_wp2_with fail
  go_loopg [] st.length (fun k wr => ∃ (s : List Fr) (o : List S27), Hid (s.length = k) ∧ Hid (In p W t s o wr) ∧ Hid (shutR t s.reverse o = shutR t st.reverse out) ∧ Hid (o.length + s.length < 1000000))
  case atStart => exact ⟨st, out, Go.Lib.hid rfl, HI, Go.Lib.hid rfl, HL⟩
  case round =>
    obtain ⟨s, o, hk, hI, hS, hL⟩ := hrel
    have HT := Go.Lib.hid (topE HM.out.more hI.out (by have := hL.out; omega))
    rcases snoc_cases s with rfl | ⟨l, y, rfl⟩
    · rw [tp_nil] at HT
      go_wp2_with fail
      refine HT.out.mono ?_
      rintro e w1 ⟨rfl, hb1⟩
      have hI1 := Go.Lib.hid (hI.out.up hb1)
      clear hb1 HT
      go_wp2_with fail
      refine bodyPost_end (results_none rfl _ _ _) rfl ?_
      exact ⟨rfl, by rw [← hS.out]; exact hI1.out.done H0.out⟩
    · rw [tp_snoc] at HT
      have hr := Go.Lib.hid (show shutR t (l ++ [y]).reverse o = if 0 < y.1 then shutR t l.reverse (o ++ [vt 7 t]) else (y :: l.reverse, o) by rw [List.reverse_append]; rfl)
      by_cases hy : 0 < y.1
      · have hy' : decide (0 < y.1) = true := decide_eq_true hy
        have hn := Go.Lib.hid (show shutR t l.reverse (o ++ [vt 7 t]) = shutR t st.reverse out by rw [← hS.out, hr.out, if_pos hy])
        clear hy
        go_wp2_with fail
        refine HT.out.mono ?_
        rintro e w1 ⟨rfl, hb1⟩
        have hI1 := Go.Lib.hid (hI.out.up hb1)
        have ⟨b0, b1, b2, b3, b4⟩ := hI1.out.box
        have HP := Go.Lib.hid (putE HM.out.more 7 t hI1.out (by have := hL.out; omega))
        clear hb1 HT hI
        go_wp2_with fail
        refine HP.out.mono ?_
        rintro e w2 ⟨rfl, hI2⟩
        have HQ := Go.Lib.hid (popE HM.out.more hI2 (by have := hL.out; omega))
        clear HP hI1 hI2 b0 b1 b2 b3 b4
        go_wp2_with fail
        refine HQ.out.mono ?_
        rintro e w3 ⟨rfl, hI3⟩
        have HI3 := Go.Lib.hid hI3
        clear HQ hI3
        go_wp2_with fail
        go_roundg l.length
        case measure => have := hk.out; rw [List.length_append] at this; simp at this; omega
        case rel => exact ⟨l, o ++ [vt 7 t], Go.Lib.hid rfl, HI3, hn, Go.Lib.hid (by have := hL.out; simp at this ⊢; omega)⟩
      · have hy' : decide (0 < y.1) = false := decide_eq_false hy
        have hn := Go.Lib.hid (show (y :: l.reverse, o) = shutR t st.reverse out by rw [← hS.out, hr.out, if_neg hy])
        clear hy
        go_wp2_with fail
        refine HT.out.mono ?_
        rintro e w1 ⟨rfl, hb1⟩
        have hI1 := Go.Lib.hid (hI.out.up hb1)
        clear hb1 HT
        go_wp2_with fail
        refine bodyPost_end (results_none rfl _ _ _) rfl ?_
        exact ⟨rfl, by rw [← hn.out]; show TwoE p (y :: l.reverse).reverse o _; rw [List.reverse_cons, List.reverse_reverse]; exact hI1.out.done H0.out⟩
end Go.Proofs.Ytchbjjefjmcakaa.Lb
