import Derived.Test.YtemdfhaceddmpaaPk
namespace Go.Proofs.Ytemdfhaceddmpaa.Tr
open Go.Shelf Go.RowKit Go.Proofs.Ytemdfhaceddmpaa.PPrinterTells Go.Proofs.YtemdfhaceddmpaaW.PrintWords Go.Proofs.YtemdfhaceddmpaaW.PrintLast Go.Proofs.YtemdfhaceddmpaaW.PrintMore
set_option linter.unusedVariables false
set_option linter.unusedSimpArgs false

/-- How often each number below n stands in a row. -/
def Uf (cs : List Int) (n : Nat) : List Int := (List.range n).map fun (k : Nat) => ((cs.count (k : Int) : Nat) : Int)
theorem Uf_len (cs : List Int) (n : Nat) : (Uf cs n).length = n := by simp [Uf]
theorem Uf_at (cs : List Int) (n k : Nat) (h : k < n) : (Uf cs n)[k]? = some ((cs.count (k : Int) : Nat) : Int) := by
  simp [Uf, h]
theorem Uf_nil (n : Nat) : Uf [] n = List.replicate n 0 := by
  apply List.ext_getElem <;> simp [Uf]
theorem Uf_snoc (cs : List Int) (n k : Nat) (h : k < n) : (Uf cs n).set k (((cs.count (k : Int) : Nat) : Int) + 1) = Uf (cs ++ [(k : Int)]) n := by
  apply List.ext_getElem
  · simp [Uf]
  · intro i h1 h2
    rw [List.length_set, Uf_len] at h1
    rw [List.getElem_set]
    simp only [Uf, List.getElem_map, List.getElem_range, List.count_append, List.count_singleton]
    by_cases e : k = i
    · subst e; simp
    · rw [if_neg e]
      have : ¬ ((k : Int) == (i : Int)) = true := by simp; omega
      rw [if_neg this]; simp

/-- What stands while the program looks at a node. -/
structure CL (w W : World) (g gU gD n : Nat) (x : S27) (A3 : Option Addr) (c3 : Nat) (v : Value) (l U D : List Int) : Prop where
  box : W.heap[g]? = some (.cells #[.int .i64 x.f0, .string x.f1, .int .i64 x.f2, .slice A3 x.f3.length c3, .int .i64 x.f4, .int .i64 x.f5] 27 (0, 0))
  own : W.ownsRow g 3 1 v l.length (nums .i64 l)
  iu : IA W gU U
  id : IA W gD D
  below : Below w.heap.size w W
  hU : w.heap.size ≤ gU
  hD : w.heap.size ≤ gD
  ne : gU ≠ gD
  lU : gU < g
  lD : gD < g
theorem IA.far {W : World} {g : Nat} {xs : List Int} (h : IA W g xs) {p : Addr} (hp : g ≠ p.block) (u : Value) : IA (W.setCell p u) g xs := blk_far h hp u
section
variable {w W W' : World} {g gU gD n : Nat} {x : S27} {A3 : Option Addr} {c3 : Nat} {v v1 : Value} {l l1 U D : List Int}
theorem CL.lift (h : CL w W g gU gD n x A3 c3 v l U D) (hb : Below W.heap.size W W') : CL w W' g gU gD n x A3 c3 v l U D :=
  ⟨blk_below h.box hb, pw_own_below h.own hb, h.iu.below hb, h.id.below hb, below_step h.below hb, h.hU, h.hD, h.ne, h.lU, h.lD⟩
theorem CL.ownNe (h : CL w W g gU gD n x A3 c3 v l U D) {k : Nat} (hk : k < g) : some k ≠ v.ownBlock := fun e => by have := own_base h.own k e.symm; omega
theorem CL.putU (h : CL w W g gU gD n x A3 c3 v l U D) (j : Nat) (y : Int) : CL w (W.setCell ⟨gU, j, none⟩ (.int .i64 y)) g gU gD n x A3 c3 v l (U.set j y) D :=
  ⟨blk_far h.box (by have := h.lU; simp; omega) _, own_setCell (p := ⟨gU, j, none⟩) h.own (h.ownNe h.lU) _, h.iu.put j y, h.id.far (by have := h.ne; simp; omega) _, h.below.setCell h.hU _, h.hU, h.hD, h.ne, h.lU, h.lD⟩
theorem CL.putD (h : CL w W g gU gD n x A3 c3 v l U D) (j : Nat) (y : Int) : CL w (W.setCell ⟨gD, j, none⟩ (.int .i64 y)) g gU gD n x A3 c3 v l U (D.set j y) :=
  ⟨blk_far h.box (by have := h.lD; simp; omega) _, own_setCell (p := ⟨gD, j, none⟩) h.own (h.ownNe h.lD) _, h.iu.far (by have := h.ne; simp; omega) _, h.id.put j y, h.below.setCell h.hD _, h.hU, h.hD, h.ne, h.lU, h.lD⟩
theorem CL.app (h : CL w W g gU gD n x A3 c3 v l U D) (ho : W'.ownsRow g 3 1 v1 l1.length (nums .i64 l1)) (hb : Below g W W') (hg : W.grownBy W' v.ownBlock) : CL w W' g gU gD n x A3 c3 v1 l1 U D :=
  ⟨blk_grown h.box hg (own_ne h.own h.box (by decide)), ho, (hb.block gU h.lU).trans h.iu, (hb.block gD h.lD).trans h.id, h.below.trans (hb.mono (Nat.le_of_lt (Nat.lt_of_le_of_lt h.hU h.lU))), h.hU, h.hD, h.ne, h.lU, h.lD⟩
theorem CL.cells (h : CL w W g gU gD n x A3 c3 v l U D) :
    W.cell? ⟨g, 0, none⟩ = some (.int .i64 x.f0) ∧ W.cell? ⟨g, 2, none⟩ = some (.int .i64 x.f2) ∧ W.cell? ⟨g, 3, none⟩ = some (.slice A3 x.f3.length c3) ∧ W.cell? ⟨g, 1, none⟩ = some (.string x.f1) ∧ W.cell? ⟨g, 4, none⟩ = some (.int .i64 x.f4) ∧ W.cell? ⟨g, 5, none⟩ = some (.int .i64 x.f5) :=
  ⟨(blk_cell h.box 0).trans rfl, (blk_cell h.box 2).trans rfl, (blk_cell h.box 3).trans rfl, (blk_cell h.box 1).trans rfl, (blk_cell h.box 4).trans rfl, (blk_cell h.box 5).trans rfl⟩
theorem CL.reads {A : Option Addr} {c : Nat} (h : CL w W g gU gD n x A3 c3 (.slice A l.length c) l U D) : Kd.C (Kd.int .i64) W A l.length l :=
  Kd.C_of_reads (d := 0) (h1 := fun _ => rfl) (readsInt_of.1 (own_reads' h.own))
theorem CL.start (hb : Below w.heap.size w W) (iu : IA W gU U) (id : IA W gD D) (hU : w.heap.size ≤ gU) (hD : w.heap.size ≤ gD) (ne : gU ≠ gD) :
    CL w (W.alloc (.cells #[.int .i64 x.f0, .string x.f1, .int .i64 x.f2, .slice A3 x.f3.length c3, .int .i64 x.f4, .int .i64 x.f5] 27)) W.heap.size gU gD n x A3 c3 (.slice none 0 0) [] U D :=
  ⟨blk_new _ _, own_nil _ _ _ _, blk_alloc iu _, blk_alloc id _, below_alloc hb _, hU, hD, ne, blk_lt iu, blk_lt id⟩
end
/-- A node's program error is the document's. -/
theorem imp_eq (x : S27) (m : Nat) : impB x m = (decide (x.f0 = 1) && (decide (x.f2 < 0) || decide (1 < x.f2) || (decide (x.f2 = 0) && decide (0 < m)))) := by
  unfold impB
  congr 1
  congr 1
  rw [Bool.eq_iff_iff]
  simp only [Bool.and_eq_true, Bool.not_eq_true', decide_eq_false_iff_not, Bool.or_eq_true, decide_eq_true_eq]
  omega
theorem field_shape {t : List S27} {n : S27} (h : okN t n = true) (h19 : n.f0 = 19) : n.f3 ≠ [] ∧ inK 88 (kd t (rd n.f3 0)) = true := by
  unfold okN at h
  simp only [Bool.and_eq_true] at h
  have h2 := h.1.1
  rw [h19, shp_19, sB_iff] at h2
  obtain ⟨a, m, b, he, ⟨y, s, rfl, hy, hs⟩, hm, -, hb⟩ := h2
  obtain rfl : s = [] := hs
  obtain rfl : b = [] := hb
  obtain rfl : m = [] := by
    cases m with
    | nil => rfl
    | cons z m => exact absurd (hm z (by simp)) (by rw [inK_0]; simp)
  cases hf : n.f3 with
  | nil => rw [hf] at he; cases he
  | cons z zs =>
    rw [hf] at he
    refine ⟨by simp, ?_⟩
    have e : kd t z = y := by simpa using (List.cons.inj he).1
    show inK 88 (kd t z) = true
    rw [e]; exact hy
end Go.Proofs.Ytemdfhaceddmpaa.Tr
