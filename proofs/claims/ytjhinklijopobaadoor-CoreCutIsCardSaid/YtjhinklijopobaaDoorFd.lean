import Derived.Test.YtjhinklijopobaaDoorFa
namespace Go.Proofs.YtjhinklijopobaaDoor.Co
open Go.RowKit Go.Proofs.YtjhinklijopobaaDoor.PCoreChecks Go.Proofs.YtjhinklijopobaaDoorW.PrintWords Go.Proofs.YtjhinklijopobaaDoorW.PrintLast Go.Proofs.YtjhinklijopobaaDoorW.PrintMore
set_option linter.unusedVariables false
set_option linter.unusedSimpArgs false

/-! ### core.below: a tree whose rows of identifiers and alternatives are the list's own -/
/-- A node while its kids are gathered; what is older than w1 stays as it was. -/
structure Bv (w1 : World) (b : Nat) (op n : Int) (v2 v3 v4 : Value) (kb : List Nat) (W : World) : Prop where
  bl : Below w1.heap.size w1 W
  tb : Tb W b op n v2 v3 v4
  lo : w1.heap.size ≤ b
  r3 : Kd.R kp 66 W w1.heap.size (fun _ => True) v3 kb
theorem Bv.lift {w1 W W' : World} {b : Nat} {op n : Int} {v2 v3 v4 : Value} {kb : List Nat} (h : Bv w1 b op n v2 v3 v4 kb W) (hb : Below W.heap.size W W') : Bv w1 b op n v2 v3 v4 kb W' :=
  ⟨below_step h.bl hb, h.tb.below hb, h.lo, Kd.R_below h.r3 hb⟩
theorem Bv.kid {w1 W W' : World} {b : Nat} {op n : Int} {v2 v3 v4 v3' : Value} {kb : List Nat} {p : Nat} (h : Bv w1 b op n v2 v3 v4 kb W) (hr : Kd.R kp 66 W' w1.heap.size (fun _ => True) v3' (kb ++ [p])) (hb : Below w1.heap.size w1 W') (hg : W.grownBy W' v3.ownBlock) :
    Bv w1 b op n v2 v3' v4 (kb ++ [p]) (W'.setCell ⟨b, 3, none⟩ v3') := by
  have htb : Tb W' b op n v2 v3 v4 := blk_grown h.tb hg (Kd.R_ne h.r3 h.tb (by decide))
  exact ⟨below_set hb h.lo, blk_put htb 3 _ rfl, h.lo, Kd.R_set hr htb (fun q hq => by rw [List.mem_singleton.1 hq]; decide) 3 _⟩
theorem Bv.start {w1 : World} {op n : Int} {v2 v4 : Value} : Bv w1 w1.heap.size op n v2 (.slice none 0 0) v4 [] (w1.alloc (.cells #[.int .i64 op, .int .i64 n, v2, .slice none 0 0, v4] 95)) :=
  ⟨below_alloc (Below.refl _ _) _, blk_new _ _, Nat.le_refl _, Kd.R_nil _ _ _ _ _⟩
theorem Bv.cells {w1 W : World} {b : Nat} {op n : Int} {v2 v3 v4 : Value} {kb : List Nat} (h : Bv w1 b op n v2 v3 v4 kb W) : W.cell? ⟨b, 3, none⟩ = some v3 ∧ W.frozen? ⟨b, 3, none⟩ = false :=
  ⟨h.tb.cells.2.2.2.1, blk_frozen h.tb 3⟩
theorem Bv.old {w1 W : World} {b : Nat} {op n : Int} {v2 v3 v4 : Value} {kb : List Nat} (h : Bv w1 b op n v2 v3 v4 kb W) {a : Addr} {v : Value} (hc : w1.cell? a = some v) : W.cell? a = some v := pw_cell_below h.bl hc
theorem Bv.grown3 {w1 W W' : World} {b : Nat} {op n : Int} {v2 v3 v4 : Value} {kb : List Nat} (h : Bv w1 b op n v2 v3 v4 kb W) (hg : W.grownBy W' v3.ownBlock) : W'.cell? ⟨b, 3, none⟩ = some v3 ∧ W'.frozen? ⟨b, 3, none⟩ = false := by
  have htb : Tb W' b op n v2 v3 v4 := blk_grown h.tb hg (Kd.R_ne h.r3 h.tb (by decide))
  exact ⟨htb.cells.2.2.2.1, blk_frozen htb 3⟩
/-- A node that stands, in the blocks from lo to hi; its rows of identifiers and alternatives are those of w0. -/
structure Gv (w0 W : World) (lo hi b : Nat) (x : S28) (kb : List Nat) : Prop where
  ge : lo ≤ b
  lt : b < hi
  ex : ∃ A2 c2 v3 A4 c4, Tb W b x.f0 x.f1 (.slice A2 x.f2.length c2) v3 (.slice A4 x.f4.length c4) ∧ x.f2.length ≤ c2 ∧ Kd.C (Kd.int .i64) w0 A2 x.f2.length x.f2 ∧ Kd.R kp 66 W lo (fun k => k < hi) v3 kb ∧ x.f4.length ≤ c4 ∧ Kd.C k86 w0 A4 x.f4.length x.f4
theorem Gv.move {w0 W W' : World} {lo hi b : Nat} {x : S28} {kb : List Nat} (h : Gv w0 W lo hi b x kb) (hm : ∀ k, lo ≤ k → k < hi → W'.heap[k]? = W.heap[k]?) : Gv w0 W' lo hi b x kb := by
  obtain ⟨h1, h2, A2, c2, v3, A4, c4, ht, l2, g2, h3, l4, g4⟩ := h
  exact ⟨h1, h2, A2, c2, v3, A4, c4, (hm b h1 h2).trans ht, l2, g2, R_band h3 hm, l4, g4⟩
theorem Bv.done {w0 w1 W : World} {b lo : Nat} {x : S28} {A2 A4 : Option Addr} {c2 c4 : Nat} {v3 : Value} {kb : List Nat} (h : Bv w1 b x.f0 x.f1 (.slice A2 x.f2.length c2) v3 (.slice A4 x.f4.length c4) kb W) (hl : lo ≤ w1.heap.size) (l2 : x.f2.length ≤ c2) (g2 : Kd.C (Kd.int .i64) w0 A2 x.f2.length x.f2) (l4 : x.f4.length ≤ c4) (g4 : Kd.C k86 w0 A4 x.f4.length x.f4) : Gv w0 W lo W.heap.size b x kb :=
  ⟨Nat.le_trans hl h.lo, blk_lt h.tb, A2, c2, v3, A4, c4, h.tb, l2, g2, Kd.R_lower (Kd.R_mono (Kd.R_bound h.r3) (fun _ hk => hk.2.2.1)) hl, l4, g4⟩
/-- The first n nodes of a list stand in the heap. -/
structure Fw (w0 : World) (base : Nat) (W : World) (t : List S28) (n : Nat) (ps lo : Nat → Nat) : Prop where
  lo0 : base ≤ lo 0
  hi : lo n ≤ W.heap.size
  nd : ∀ i (h : i < t.length), i < n → Gv w0 W (lo i) (lo (i + 1)) (ps i) (t[i]'h) ((t[i]'h).f3.map fun k => ps k.toNat)
theorem Fw.low {w0 : World} {base : Nat} {W : World} {t : List S28} {n : Nat} {ps lo : Nat → Nat} (h : Fw w0 base W t n ps lo) (hn : n ≤ t.length) : ∀ i, i ≤ n → base ≤ lo i := by
  intro i
  induction i with
  | zero => intro _; exact h.lo0
  | succ i ih =>
    intro hi
    have h1 := ih (by omega)
    have h2 := h.nd i (by omega) (by omega)
    have := h2.ge; have := h2.lt
    omega
theorem Fw.up {w0 : World} {base : Nat} {W : World} {t : List S28} {n : Nat} {ps lo : Nat → Nat} (h : Fw w0 base W t n ps lo) (hn : n ≤ t.length) : ∀ m i, i + m = n → lo i ≤ lo n := by
  intro m
  induction m with
  | zero => intro i hi; rw [show i = n by omega]; exact Nat.le_refl _
  | succ m ih =>
    intro i hi
    have h1 := ih (i + 1) (by omega)
    have h2 := h.nd i (by omega) (by omega)
    have := h2.ge; have := h2.lt
    omega
theorem Fw.move {w0 : World} {base : Nat} {W W' : World} {t : List S28} {n : Nat} {ps lo : Nat → Nat} (h : Fw w0 base W t n ps lo) (hn : n ≤ t.length) (hs : W.heap.size ≤ W'.heap.size) (hm : ∀ k, base ≤ k → k < W.heap.size → W'.heap[k]? = W.heap[k]?) : Fw w0 base W' t n ps lo :=
  ⟨h.lo0, Nat.le_trans h.hi hs, fun i hi hin => (h.nd i hi hin).move (fun k h1 h2 => hm k (by have := h.low hn i (by omega); omega) (by have := h.up hn (n - (i + 1)) (i + 1) (by omega); have := h.hi; omega))⟩
theorem Fw.below {w0 : World} {base : Nat} {W W' : World} {t : List S28} {n : Nat} {ps lo : Nat → Nat} (h : Fw w0 base W t n ps lo) (hn : n ≤ t.length) (hb : Below W.heap.size W W') : Fw w0 base W' t n ps lo := h.move hn hb.size (fun k _ hk => hb.block k hk)
theorem Fw.next {w0 : World} {base : Nat} {w1 W W' : World} {t : List S28} {n : Nat} {ps lo : Nat → Nat} {b : Nat} (h : Fw w0 base w1 t n ps lo) (hn : n < t.length) (hr : rB t = true) (hg : Gv w0 W (lo n) W.heap.size b (t[n]'hn) ((t[n]'hn).f3.map fun k => ps k.toNat)) (hb : Below w1.heap.size w1 W)
    (hs : W'.heap.size = W.heap.size) (hm : ∀ k, base ≤ k → W'.heap[k]? = W.heap[k]?) : Fw w0 base W' t (n + 1) (fset ps n b) (fset lo (n + 1) W'.heap.size) := by
  have h1 := (h.below (by omega) hb)
  have hk : ∀ i (hi : i < t.length), i < n + 1 → (t[i]'hi).f3.map (fun k => fset ps n b k.toNat) = (t[i]'hi).f3.map fun k => ps k.toNat := by
    intro i hi hin
    refine List.map_congr_left fun k hk => ?_
    have := badK_mem (rB_at hr i hi) hk
    unfold fset
    rw [if_neg (by omega)]
  refine ⟨?_, ?_, fun i hi hin => ?_⟩
  · unfold fset; rw [if_neg (by omega)]; exact h.lo0
  · unfold fset; rw [if_pos rfl]; exact Nat.le_refl _
  · rw [hk i hi hin]
    by_cases e : i = n
    · subst e
      have e1 : fset lo (i + 1) W'.heap.size i = lo i := by unfold fset; rw [if_neg (by omega)]
      have e2 : fset lo (i + 1) W'.heap.size (i + 1) = W.heap.size := by unfold fset; rw [if_pos rfl, hs]
      have e3 : fset ps i b i = b := by unfold fset; rw [if_pos rfl]
      rw [e1, e2, e3]
      exact hg.move (fun k h3 h4 => hm k (by have := h.low (by omega) i (Nat.le_refl _); omega))
    · have e1 : fset lo (n + 1) W'.heap.size i = lo i := by unfold fset; rw [if_neg (by omega)]
      have e2 : fset lo (n + 1) W'.heap.size (i + 1) = lo (i + 1) := by unfold fset; rw [if_neg (by omega)]
      have e3 : fset ps n b i = ps i := by unfold fset; rw [if_neg e]
      rw [e1, e2, e3]
      exact (h1.nd i hi (by omega)).move (fun k h3 h4 => hm k (by have := h.low (by omega) i (by omega); omega))
theorem Gv.reads {w0 W : World} {lo hi b : Nat} {x : S28} {kb : List Nat} (h : Gv w0 W lo hi b x kb) (hb : Below w0.heap.size w0 W) : ∃ A2 c2 A3 c3 A4 c4, Nr W b x kb A2 c2 A3 c3 A4 c4 := by
  obtain ⟨_, _, A2, c2, v3, A4, c4, ht, l2, g2, h3, l4, g4⟩ := h
  obtain ⟨A3, c3, rfl, l3, g3⟩ := Kd.R_reads h3
  exact ⟨A2, c2, A3, c3, A4, c4, ht, l2, Kd.C_below g2 hb, l3, g3, l4, Kd.C_below g4 hb⟩
theorem Fw.reads {w0 : World} {base : Nat} {W : World} {t : List S28} {n : Nat} {ps lo : Nat → Nat} (h : Fw w0 base W t n ps lo) (hb : Below w0.heap.size w0 W) : Ft W t n ps := fun i hi hin => (h.nd i hi hin).reads hb

/-- What stands at the head of a round. -/
structure Gw (w W : World) (t : List S28) (i : Nat) (ps lo : Nat → Nat) : Prop where
  b : Below w.heap.size w W
  fo : Fw w (w.heap.size + 1) W t i ps lo
  na : NA W w.heap.size t.length ps i
theorem Gw.start (w : World) (t : List S28) : Gw w (w.alloc (.cells (madeCells #[.pointer none] t.length) 66)) t 0 (fun _ => 0) (fun _ => w.heap.size + 1) :=
  ⟨below_alloc (Below.refl _ _) _, ⟨Nat.le_refl _, by simp, fun i _ h => by omega⟩, NA.made w t.length _⟩
/-- The pointer to node n; the nodes up to it stand. -/
def BlwP (t : List S28) (n : Nat) (w : World) (e : Ending) (w' : World) : Prop := ∃ ps, e = .returned (ptrV (ps n)) ∧ Ft w' t (n + 1) ps ∧ Below w.heap.size w w'
theorem BlwP.mk {t : List S28} {n : Nat} {w w' : World} {ps lo : Nat → Nat} (h : Gw w w' t (n + 1) ps lo) : BlwP t n w (.returned (ptrV (ps n))) w' := ⟨ps, rfl, h.fo.reads h.b, h.b⟩
theorem Gw.next {w wo w1 W : World} {t : List S28} {i : Nat} {ps lo : Nat → Nat} {b : Nat} {x : S28} {A2 A4 : Option Addr} {c2 c4 : Nat} {v3 : Value} {kb : List Nat} (h : Gw w wo t i ps lo) (hb1 : Below wo.heap.size wo w1) (hbu : Bv w1 b x.f0 x.f1 (.slice A2 x.f2.length c2) v3 (.slice A4 x.f4.length c4) kb W) (l2 : x.f2.length ≤ c2) (g2 : Kd.C (Kd.int .i64) w A2 x.f2.length x.f2) (l4 : x.f4.length ≤ c4) (g4 : Kd.C k86 w A4 x.f4.length x.f4) (hna : NA W w.heap.size t.length ps i) (hi : i < t.length)
    (hnx : ∀ W W' b, Gv w W (lo i) W.heap.size b x kb → Below wo.heap.size wo W → W'.heap.size = W.heap.size → (∀ k, w.heap.size + 1 ≤ k → W'.heap[k]? = W.heap[k]?) → Fw w (w.heap.size + 1) W' t (i + 1) (fset ps i b) (fset lo (i + 1) W'.heap.size)) :
    Gw w (W.setCell ⟨w.heap.size, i, none⟩ (ptrV b)) t (i + 1) (fset ps i b) (fset lo (i + 1) (W.setCell ⟨w.heap.size, i, none⟩ (ptrV b)).heap.size) := by
  have hbw : Below wo.heap.size wo W := hb1.trans (hbu.bl.mono hb1.size)
  refine ⟨below_set (below_step h.b hbw) (Nat.le_refl _), ?_, hna.put hi b⟩
  exact hnx W _ b (hbu.done (Nat.le_trans h.fo.hi hb1.size) l2 g2 l4 g4) hbw (by simp [World.setCell]) (fun k hk => Below.heap_setCell W ⟨w.heap.size, i, none⟩ _ k (by simp; omega))

set_option maxHeartbeats 16000000 in
set_option maxRecDepth 100000 in
theorem below_calls (t : List S28) (htr : treeB t = true) (hn : t.length ≤ 4096) (n : Nat) (hnt : n < t.length) (A0 : Option Addr) (c0 : Nat) (hc0 : t.length ≤ c0) (w : World) (hr : Kd.C k28 w A0 t.length t) :
    Calls Tryd.prog 44 #[.slice A0 t.length c0, .int .i64 (n : Int)] w (BlwP t n w) := by
  have HR := Go.Lib.hid hr
  have HTR := Go.Lib.hid htr
  have ht9 : (t.length : Int) ≤ 4096 := by omega
  have HN := Go.Lib.hid hn
  have HG0 := Go.Lib.hid (Gw.start w t)
  have h0 : 0 < t.length := (treeB_parts htr).1
  have hmk : ∀ W : World, (Instr.makeSlice 93 (.int .i64 (t.length : Int)) (.int .i64 (t.length : Int))).run Tryd.prog W = .ok (.slice (some ⟨W.heap.size, 0, none⟩) t.length t.length) (W.alloc (.cells (madeCells #[.pointer none] t.length) 66)) := fun W =>
    run_make_row' 93 66 (.pointer none) 8 Tryd.underlying93 info66 rfl .i64 .i64 t.length (by omega) (by omega) W
  obtain ⟨N, hN⟩ : ∃ N : Nat, N = n + 1 := ⟨_, rfl⟩
  have hN1 : (n : Int) + 1 = (N : Int) := by omega
  have hN3 : (N : Int) ≤ (c0 : Int) := by omega
  have hN0 : (0 : Int) ≤ (N : Int) := by omega
  have hN9 : (N : Int) ≤ 4096 := by omega
  have HNN := Go.Lib.hid hN
  have HNT := Go.Lib.hid hnt
  clear hr htr hn h0 hc0 hnt hN
  go_enter Tryd.func44, Tryd.ntmps44
  go_wp2_with fail
  clear hmk
  go_loopg [19] N (fun g_ v19 w' => ∃ (i : Nat) (ps lo : Nat → Nat), Hid (i + g_ = N) ∧ v19 = .int .i64 i ∧ Hid (Gw w w' t i ps lo))
  case atStart => exact ⟨0, _, _, Go.Lib.hid (by omega), rfl, HG0⟩
  case round =>
    clear HG0
    obtain ⟨i, ps, lo, hi, rfl, hgr⟩ := hrel
    obtain ⟨wo, hwo⟩ : ∃ wo : World, wo = wr := ⟨_, rfl⟩
    subst hwo
    obtain ⟨ga, hga⟩ : ∃ ga : Nat, ga = gk := ⟨_, rfl⟩
    subst hga
    by_cases hltN : i < N
    · have hltN' : (i : Int) < (N : Int) := by omega
      have hlt : i < t.length := by have := HNT.out; have := HNN.out; omega
      have hlt' : (i : Int) < (t.length : Int) := by omega
      have hi0 : (0 : Int) ≤ (i : Int) := by omega
      have HI := Go.Lib.hid hlt
      have HIN := Go.Lib.hid hltN
      obtain ⟨ad, A2, c2, A3, c3, A4, c4, e_, p0, p1, p2, p3, p4, l2, g2, l3, g3, l4, g4⟩ := at_T28 HR.out (i : Int) hi0 hlt'
      cases e_
      rw [rdT_nat t i hlt] at p0 p1 p2 p3 p4 l2 g2 l3 g3 l4 g4
      rw [Int.toNat_natCast] at p0 p1 p2 p3 p4
      replace p0 := pw_cell_below hgr.out.b p0
      replace p1 := pw_cell_below hgr.out.b p1
      replace p2 := pw_cell_below hgr.out.b p2
      replace p3 := pw_cell_below hgr.out.b p3
      replace p4 := pw_cell_below hgr.out.b p4
      have HKD := Go.Lib.hid (fun k (hk : k ∈ (t[i]'hlt).f3) => badK_mem (rB_at (treeB_parts HTR.out).2.1 i hlt) hk)
      have HKL := Go.Lib.hid (kids_len HTR.out hlt)
      have HNX := Go.Lib.hid (fun W W' b => Fw.next (W := W) (W' := W') (b := b) hgr.out.fo hlt (treeB_parts HTR.out).2.1)
      generalize t[i]'hlt = x at p0 p1 p2 p3 p4 l2 g2 l3 g3 l4 g4 HKD HKL HNX
      obtain ⟨w1, hw1⟩ : ∃ w1, w1 = wo.alloc (.cells #[.int .i64 x.f0, .int .i64 x.f1, .slice A2 x.f2.length c2, .slice A3 x.f3.length c3, .slice A4 x.f4.length c4] 28) := ⟨_, rfl⟩
      have HB1 := Go.Lib.hid (show Below wo.heap.size wo w1 by rw [hw1]; exact below_alloc (Below.refl _ _) _)
      have HX1 := Go.Lib.hid (show Bx w1 wo.heap.size x A2 c2 A3 c3 A4 c4 by rw [hw1]; exact Bx.made wo x A2 A3 A4 c2 c3 c4)
      have HBU := Go.Lib.hid (Bv.start (w1 := w1) (op := x.f0) (n := x.f1) (v2 := .slice A2 x.f2.length c2) (v4 := .slice A4 x.f4.length c4))
      have HG2 := Go.Lib.hid g2
      have HG3 := Go.Lib.hid (Kd.C_below (Kd.C_below g3 hgr.out.b) HB1.out)
      have HG4 := Go.Lib.hid g4
      have HL2 := Go.Lib.hid l2
      have HL4 := Go.Lib.hid l4
      have HNA := Go.Lib.hid (hgr.out.na.below HB1.out)
      have hk9 : (x.f3.length : Int) ≤ 4096 := by have := HKL.out; have := HI.out; have := HN.out; omega
      obtain ⟨b, hb⟩ : ∃ b, b = w1.heap.size := ⟨_, rfl⟩
      rw [← hb] at HBU
      have hb1 : wo.heap.size + 1 = b := by rw [hb, hw1]; simp
      have HW1 := Go.Lib.hid hw1
      have HBE := Go.Lib.hid hb1
      clear hlt hltN g2 g3 g4 l2 l3 l4 hw1 hb hb1
      go_wp2_with fail
      rw [← HW1.out, HBE.out]
      clear p0 p1 p2 p3 p4 HW1
      go_loopg [37] x.f3.length (fun g_ v37 w' => ∃ (j : Nat) (v3 : Value), Hid (j + g_ = x.f3.length) ∧ v37 = .int .i64 j ∧ Hid (Bv w1 b x.f0 x.f1 (.slice A2 x.f2.length c2) v3 (.slice A4 x.f4.length c4) ((x.f3.take j).map fun k => ps k.toNat) w'))
      case atStart => exact ⟨0, _, Go.Lib.hid (by omega), rfl, HBU⟩
      case round =>
        clear HBU
        obtain ⟨j, v3, hj, rfl, hbu⟩ := hrel
        obtain ⟨wi, hwi⟩ : ∃ wi : World, wi = wr := ⟨_, rfl⟩
        subst hwi
        by_cases hlt : j < x.f3.length
        · have hltj : (j : Int) < (x.f3.length : Int) := by omega
          have hj0 : (0 : Int) ≤ (j : Int) := by omega
          have HJ := Go.Lib.hid hlt
          obtain ⟨ad3, e_, q0⟩ := Kd.at_int HG3.out (j : Int) hj0 hltj
          cases e_
          rw [rd_nat x.f3 j hlt, Int.toNat_natCast] at q0
          have HTK := Go.Lib.hid (show (x.f3.take (j + 1)).map (fun k => ps k.toNat) = (x.f3.take j).map (fun k => ps k.toNat) ++ [ps (x.f3[j]'hlt).toNat] by rw [List.take_succ_eq_append_getElem hlt, List.map_append]; rfl)
          obtain ⟨k, hk⟩ : ∃ k : Nat, x.f3[j]'hlt = (k : Int) := ⟨(x.f3[j]'hlt).toNat, by have := HKD.out _ (List.getElem_mem hlt); omega⟩
          have hkb := HKD.out _ (List.getElem_mem hlt)
          rw [hk] at q0 hkb HTK
          rw [Int.toNat_natCast] at HTK
          have hk0 : (0 : Int) ≤ (k : Int) := by omega
          have hkn : (k : Int) < (t.length : Int) := by have := HI.out; omega
          have HKI := Go.Lib.hid (show k < i by omega)
          have hkc := HNA.out.cell k (by omega) (by omega)
          generalize hkb0 : (x.f3.take j).map (fun k => ps k.toNat) = kb at hbu HTK
          have HKB := Go.Lib.hid (show kb.length ≤ 4096 by rw [← hkb0, List.length_map, List.length_take]; omega)
          clear hlt hk hkb hkb0
          have n0 := hbu.out.old q0
          have n1 := hbu.out.old hkc
          obtain ⟨n3, f3⟩ := hbu.out.cells
          have N3 : ∀ o, (wi.alloc o).cell? ⟨b, 3, none⟩ = some v3 := fun o => (hbu.out.lift (below_alloc (Below.refl _ _) o)).cells.1
          clear q0 hkc
          go_wp2_with fail
          have HBD := Go.Lib.hid (hbu.out.lift (below_drew (Below.refl _ _)))
          go_region_law ((refine Kd.R_append_step kp (w0 := w1) (W := wi.drew) w1.heap.size (by rfl) (.tmp 45) (.tmp 50) 93 66 (.pointer none) 8 rfl Tryd.underlying93 info66 rfl (by decide) (by decide) v3 kb (ps k) [ptrV (ps k)] (fun _ => True) (fun _ => False) (by simp [Act.eval, Act.put]) (by simp [Act.eval, Act.put]) rfl (fun _ h => h.elim) (fun _ _ => trivial) HBD.out.r3 HBD.out.bl HBD.out.bl.size (by have := HKB.out; omega) ?_; intro v9 w9 hr9 hb9 hg9 hat9; obtain ⟨A9, c9, rfl⟩ := Kd.R_slice hr9; have HB9 := Go.Lib.hid (HBD.out.kid hr9 hb9 hg9); obtain ⟨g3, gf3⟩ := HBD.out.grown3 hg9; clear hr9 hb9 hg9 hat9))
          all_goals
            go_wp2_with fail
            go_roundg (gk - 1)
            case measure => have := hj.out; have := HJ.out; omega
            case rel => exact ⟨j + 1, .slice A9 (kb.length + 1) c9, Go.Lib.hid (by have := hj.out; have := HJ.out; omega), by go_num, Go.Lib.hid (by have h := HB9.out; rw [List.length_append, List.length_singleton] at h; rw [HTK.out]; exact h)⟩
        · have hd : decide ((j : Int) < (x.f3.length : Int)) = false := decide_eq_false (by omega)
          have hd2 : decide (j < x.f3.length) = false := decide_eq_false hlt
          have HB4 := Go.Lib.hid (show Bv w1 b x.f0 x.f1 (.slice A2 x.f2.length c2) v3 (.slice A4 x.f4.length c4) (x.f3.map fun k => ps k.toNat) wi by have h := hbu.out; rw [List.take_of_length_le (by omega)] at h; exact h)
          have HNI := Go.Lib.hid (HNA.out.below HB4.out.bl)
          have m0 := blk_frozen HNI.out i
          have m1 := HNI.out.cell0 HI.out
          clear hlt hbu hj
          go_wp2_with fail
          go_roundg (ga - 1)
          case measure => have := hi.out; have := HIN.out; omega
          case rel => exact ⟨i + 1, fset ps i b, _, Go.Lib.hid (by have := hi.out; have := HIN.out; omega), by go_num, Go.Lib.hid (hgr.out.next HB1.out HB4.out HL2.out HG2.out HL4.out HG4.out HNI.out HI.out HNX.out)⟩
    · have hd : decide ((i : Int) < (N : Int)) = false := decide_eq_false (by omega)
      have hd2 : decide (i < N) = false := decide_eq_false hltN
      have HE := Go.Lib.hid (show Gw w wo t (n + 1) ps lo by have h := hgr.out; rw [show i = n + 1 by have := hi.out; have := HNN.out; omega] at h; exact h)
      have hl0 : (0 : Int) ≤ (n : Int) := by omega
      have hl1 : (n : Int) < (t.length : Int) := by have := HNT.out; omega
      have m1 := HE.out.na.cell n (HNT.out) (by omega)
      clear hltN hgr hi
      go_wp2_with fail
      go_ret
      exact BlwP.mk HE.out
end Go.Proofs.YtjhinklijopobaaDoor.Co
