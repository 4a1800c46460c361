import Derived.Deep.RegionLaw
import Derived.Deep.RegionHeld3
import Derived.Test.YtjhinklijopobaaDoorGCC3
import Derived.Sort.OwnSorted
import Derived.Sort.Grow
import Derived.Lib.OwnBridge
import Derived.Test.YtjhinklijopobaaDoorShelf
import Derived.Test.YtjhinklijopobaaDoorGCC2
namespace Go.Proofs.YtjhinklijopobaaDoor.Co
open Go.RowKit Go.Proofs.YtjhinklijopobaaDoor.PCoreChecks Go.Proofs.YtjhinklijopobaaDoorW.PrintWords Go.Proofs.YtjhinklijopobaaDoorW.PrintLast Go.Proofs.YtjhinklijopobaaDoorW.PrintMore
set_option linter.unusedVariables false
set_option linter.unusedSimpArgs false

/-! ### A tree in the heap -/
/-- The pointer to a block. -/
abbrev ptrV (b : Nat) : Value := .pointer (some ⟨b, 0, none⟩)
def kp : Kd Nat := Kd.scalar ptrV (fun _ => rfl)
theorem info66 : (Tryd.prog.info? 66).map (fun i => (i.zero, i.size, i.bytes)) = some (some (.pointer none), 1, 8) := by kernel_rfl
theorem info86 : (Tryd.prog.info? 86).map (fun i => (i.zero, i.size, i.bytes)) = some (some (.agg #[.int .i64 0, .slice none 0 0]), 2, 32) := by kernel_rfl
theorem e86 : ∀ q, q ∈ 86 :: k86.E → q = 86 ∨ q = 3 := fun q hq => by
  have : (86 :: k86.E : List Nat) = [86, 3] := rfl
  rw [this] at hq
  simpa using hq
/-- A node while it is being built; what is older than w1 stays as it was. -/
structure Bu (w1 : World) (b : Nat) (op n : Int) (v2 v3 v4 : Value) (bs : List Int) (kb : List Nat) (al : List S86) (W : World) : Prop where
  bl : Below w1.heap.size w1 W
  tb : Tb W b op n v2 v3 v4
  lo : w1.heap.size ≤ b
  r2 : Kd.R (Kd.int .i64) 3 W w1.heap.size (fun _ => True) v2 bs
  r3 : Kd.R kp 66 W w1.heap.size (fun _ => True) v3 kb
  r4 : Kd.R k86 86 W w1.heap.size (fun _ => True) v4 al
theorem Bu.lift {w1 W W' : World} {b : Nat} {op n : Int} {v2 v3 v4 : Value} {bs : List Int} {kb : List Nat} {al : List S86} (h : Bu w1 b op n v2 v3 v4 bs kb al W) (hb : Below W.heap.size W W') : Bu w1 b op n v2 v3 v4 bs kb al W' :=
  ⟨below_step h.bl hb, h.tb.below hb, h.lo, Kd.R_below h.r2 hb, Kd.R_below h.r3 hb, Kd.R_below h.r4 hb⟩
theorem Bu.kid {w1 W W' : World} {b : Nat} {op n : Int} {v2 v3 v4 v3' : Value} {bs : List Int} {kb : List Nat} {al : List S86} {p : Nat} (h : Bu w1 b op n v2 v3 v4 bs kb al W) (hr : Kd.R kp 66 W' w1.heap.size (fun _ => True) v3' (kb ++ [p])) (hb : Below w1.heap.size w1 W') (hg : W.grownBy W' v3.ownBlock) :
    Bu w1 b op n v2 v3' v4 bs (kb ++ [p]) al (W'.setCell ⟨b, 3, none⟩ v3') := by
  have htb : Tb W' b op n v2 v3 v4 := blk_grown h.tb hg (Kd.R_ne h.r3 h.tb (by decide))
  refine ⟨below_set hb h.lo, blk_put htb 3 _ rfl, h.lo, ?_, ?_, ?_⟩
  · exact Kd.R_set (Kd.R_over h.r2 h.r3 (fun q hq => by rw [List.mem_singleton.1 hq]; decide) hg) htb (fun q hq => by rw [List.mem_singleton.1 hq]; decide) 3 _
  · exact Kd.R_set hr htb (fun q hq => by rw [List.mem_singleton.1 hq]; decide) 3 _
  · exact Kd.R_set (Kd.R_over h.r4 h.r3 (fun q hq => by rcases e86 q hq with rfl | rfl <;> decide) hg) htb (fun q hq => by rcases e86 q hq with rfl | rfl <;> decide) 3 _
theorem Bu.alt {w1 W W' : World} {b : Nat} {op n : Int} {v2 v3 v4 v4' : Value} {bs : List Int} {kb : List Nat} {al : List S86} {p : S86} (h : Bu w1 b op n v2 v3 v4 bs kb al W) (hr : Kd.R k86 86 W' w1.heap.size (fun _ => True) v4' (al ++ [p])) (hb : Below w1.heap.size w1 W') (hg : W.grownBy W' v4.ownBlock) :
    Bu w1 b op n v2 v3 v4' bs kb (al ++ [p]) (W'.setCell ⟨b, 4, none⟩ v4') := by
  have htb : Tb W' b op n v2 v3 v4 := blk_grown h.tb hg (Kd.R_ne h.r4 h.tb (by decide))
  refine ⟨below_set hb h.lo, blk_put htb 4 _ rfl, h.lo, ?_, ?_, ?_⟩
  · exact Kd.R_set (Kd.R_over h.r2 h.r4 (fun q hq => by rw [List.mem_singleton.1 hq]; decide) hg) htb (fun q hq => by rw [List.mem_singleton.1 hq]; decide) 4 _
  · exact Kd.R_set (Kd.R_over h.r3 h.r4 (fun q hq => by rw [List.mem_singleton.1 hq]; decide) hg) htb (fun q hq => by rw [List.mem_singleton.1 hq]; decide) 4 _
  · exact Kd.R_set hr htb (fun q hq => by rcases e86 q hq with rfl | rfl <;> decide) 4 _

/-- A node that stands, in the blocks from lo to hi. -/
structure Gn (W : World) (lo hi b : Nat) (x : S28) (kb : List Nat) : Prop where
  ge : lo ≤ b
  lt : b < hi
  ex : ∃ v2 v3 v4, Tb W b x.f0 x.f1 v2 v3 v4 ∧ Kd.R (Kd.int .i64) 3 W lo (fun k => k < hi) v2 x.f2 ∧ Kd.R kp 66 W lo (fun k => k < hi) v3 kb ∧ Kd.R k86 86 W lo (fun k => k < hi) v4 x.f4
theorem R_band {α : Type} {d : Kd α} {e lo hi : Nat} {W W' : World} {v : Value} {xs : List α} (h : d.R e W lo (fun k => k < hi) v xs) (hm : ∀ k, lo ≤ k → k < hi → W'.heap[k]? = W.heap[k]?) : d.R e W' lo (fun k => k < hi) v xs :=
  Kd.R_mono (Kd.R_move (Kd.R_bound h) (fun k hk => hm k hk.2.1 hk.1)) (fun _ hk => hk.1)
theorem Gn.move {W W' : World} {lo hi b : Nat} {x : S28} {kb : List Nat} (h : Gn W lo hi b x kb) (hm : ∀ k, lo ≤ k → k < hi → W'.heap[k]? = W.heap[k]?) : Gn W' lo hi b x kb := by
  obtain ⟨h1, h2, v2, v3, v4, ht, h3, h4, h5⟩ := h
  exact ⟨h1, h2, v2, v3, v4, (hm b h1 h2).trans ht, R_band h3 hm, R_band h4 hm, R_band h5 hm⟩
theorem Bu.done {w1 W : World} {b lo : Nat} {x : S28} {v2 v3 v4 : Value} {kb : List Nat} (h : Bu w1 b x.f0 x.f1 v2 v3 v4 x.f2 kb x.f4 W) (hl : lo ≤ w1.heap.size) : Gn W lo W.heap.size b x kb :=
  ⟨Nat.le_trans hl h.lo, blk_lt h.tb, v2, v3, v4, h.tb, Kd.R_lower (Kd.R_mono (Kd.R_bound h.r2) (fun _ hk => hk.2.2.1)) hl, Kd.R_lower (Kd.R_mono (Kd.R_bound h.r3) (fun _ hk => hk.2.2.1)) hl, Kd.R_lower (Kd.R_mono (Kd.R_bound h.r4) (fun _ hk => hk.2.2.1)) hl⟩
/-- The first n nodes of a list stand in the heap: node i at block ps i, in the blocks from lo i to lo (i + 1). -/
structure Fo (base : Nat) (W : World) (t : List S28) (n : Nat) (ps lo : Nat → Nat) : Prop where
  lo0 : base ≤ lo 0
  hi : lo n ≤ W.heap.size
  nd : ∀ i (h : i < t.length), i < n → Gn W (lo i) (lo (i + 1)) (ps i) (t[i]'h) ((t[i]'h).f3.map fun k => ps k.toNat)
theorem Fo.low {base : Nat} {W : World} {t : List S28} {n : Nat} {ps lo : Nat → Nat} (h : Fo base W t n ps lo) (hn : n ≤ t.length) : ∀ i, i ≤ n → base ≤ lo i := by
  intro i
  induction i with
  | zero => intro _; exact h.lo0
  | succ i ih =>
    intro hi
    have h1 := ih (by omega)
    have h2 := h.nd i (by omega) (by omega)
    have := h2.ge; have := h2.lt
    omega
theorem Fo.up {base : Nat} {W : World} {t : List S28} {n : Nat} {ps lo : Nat → Nat} (h : Fo base W t n ps lo) (hn : n ≤ t.length) : ∀ m i, i + m = n → lo i ≤ lo n := by
  intro m
  induction m with
  | zero => intro i hi; rw [show i = n by omega]; exact Nat.le_refl _
  | succ m ih =>
    intro i hi
    have h1 := ih (i + 1) (by omega)
    have h2 := h.nd i (by omega) (by omega)
    have := h2.ge; have := h2.lt
    omega
theorem Fo.move {base : Nat} {W W' : World} {t : List S28} {n : Nat} {ps lo : Nat → Nat} (h : Fo base W t n ps lo) (hn : n ≤ t.length) (hs : W.heap.size ≤ W'.heap.size) (hm : ∀ k, base ≤ k → k < W.heap.size → W'.heap[k]? = W.heap[k]?) : Fo base W' t n ps lo :=
  ⟨h.lo0, Nat.le_trans h.hi hs, fun i hi hin => (h.nd i hi hin).move (fun k h1 h2 => hm k (by have := h.low hn i (by omega); omega) (by have := h.up hn (n - (i + 1)) (i + 1) (by omega); have := h.hi; omega))⟩
theorem Fo.below {base : Nat} {W W' : World} {t : List S28} {n : Nat} {ps lo : Nat → Nat} (h : Fo base W t n ps lo) (hn : n ≤ t.length) (hb : Below W.heap.size W W') : Fo base W' t n ps lo := h.move hn hb.size (fun k _ hk => hb.block k hk)
def fset (f : Nat → Nat) (i v : Nat) : Nat → Nat := fun j => if j = i then v else f j
theorem Fo.next {base : Nat} {w1 W W' : World} {t : List S28} {n : Nat} {ps lo : Nat → Nat} {b : Nat} (h : Fo base w1 t n ps lo) (hn : n < t.length) (hr : rB t = true) (hg : Gn W (lo n) W.heap.size b (t[n]'hn) ((t[n]'hn).f3.map fun k => ps k.toNat)) (hb : Below w1.heap.size w1 W)
    (hs : W'.heap.size = W.heap.size) (hm : ∀ k, base ≤ k → W'.heap[k]? = W.heap[k]?) : Fo base W' t (n + 1) (fset ps n b) (fset lo (n + 1) W'.heap.size) := by
  have h1 := (h.below (by omega) hb)
  have hk : ∀ i (hi : i < t.length), i < n + 1 → (t[i]'hi).f3.map (fun k => fset ps n b k.toNat) = (t[i]'hi).f3.map fun k => ps k.toNat := by
    intro i hi hin
    refine List.map_congr_left fun k hk => ?_
    have := badK_mem (rB_at hr i hi) hk
    unfold fset
    rw [if_neg (by omega)]
  refine ⟨?_, ?_, fun i hi hin => ?_⟩
  · unfold fset; rw [if_neg (by omega)]; exact h.lo0
  · unfold fset; rw [if_pos rfl]; exact Nat.le_refl _
  · rw [hk i hi hin]
    by_cases e : i = n
    · subst e
      have e1 : fset lo (i + 1) W'.heap.size i = lo i := by unfold fset; rw [if_neg (by omega)]
      have e2 : fset lo (i + 1) W'.heap.size (i + 1) = W.heap.size := by unfold fset; rw [if_pos rfl, hs]
      have e3 : fset ps i b i = b := by unfold fset; rw [if_pos rfl]
      rw [e1, e2, e3]
      exact hg.move (fun k h3 h4 => hm k (by have := h.low (by omega) i (Nat.le_refl _); omega))
    · have e1 : fset lo (n + 1) W'.heap.size i = lo i := by unfold fset; rw [if_neg (by omega)]
      have e2 : fset lo (n + 1) W'.heap.size (i + 1) = lo (i + 1) := by unfold fset; rw [if_neg (by omega)]
      have e3 : fset ps n b i = ps i := by unfold fset; rw [if_neg e]
      rw [e1, e2, e3]
      exact (h1.nd i hi (by omega)).move (fun k h3 h4 => hm k (by have := h.low (by omega) i (by omega); omega))
/-- The block of the pointers to the nodes. -/
def NA (W : World) (g n : Nat) (ps : Nat → Nat) (i : Nat) : Prop := W.heap[g]? = some (.cells ((List.range n).map fun j => if j < i then ptrV (ps j) else .pointer none).toArray 66 (0, 0))
theorem NA.cell {W : World} {g n : Nat} {ps : Nat → Nat} {i : Nat} (h : NA W g n ps i) (j : Nat) (hj : j < n) (hi : j < i) : W.cell? ⟨g, j, none⟩ = some (ptrV (ps j)) := by
  rw [blk_cell h]
  simp [hj, hi]
theorem NA.put {W : World} {g n : Nat} {ps : Nat → Nat} {i : Nat} (h : NA W g n ps i) (hi : i < n) (b : Nat) : NA (W.setCell ⟨g, i, none⟩ (ptrV b)) g n (fset ps i b) (i + 1) := by
  refine blk_put h i _ ?_
  rw [List.setIfInBounds_toArray]
  congr 1
  apply List.ext_getElem
  · simp
  · intro j h1 h2
    rw [List.getElem_set]
    simp only [List.getElem_map, List.getElem_range]
    unfold fset
    by_cases e : i = j
    · subst e; simp
    · rw [if_neg e]
      by_cases hj : j < i
      · rw [if_pos hj, if_pos (by omega), if_neg (by omega)]
      · rw [if_neg hj, if_neg (by omega)]
theorem NA.below {W W' : World} {g n : Nat} {ps : Nat → Nat} {i : Nat} (h : NA W g n ps i) (hb : Below W.heap.size W W') : NA W' g n ps i := blk_below h hb
theorem NA.made (W : World) (n : Nat) (ps : Nat → Nat) : NA (W.alloc (.cells (madeCells #[.pointer none] n) 66)) W.heap.size n ps 0 := by
  unfold NA
  rw [blk_new]
  congr 2
  apply Array.ext'
  apply List.ext_getElem
  · simp [madeCells]
  · intro i h1 h2
    simp [madeCells, Nat.mod_one]
end Go.Proofs.YtjhinklijopobaaDoor.Co
namespace Go.Proofs.YtjhinklijopobaaDoor.Co
open Go.RowKit Go.Proofs.YtjhinklijopobaaDoor.PCoreChecks Go.Proofs.YtjhinklijopobaaDoorW.PrintWords Go.Proofs.YtjhinklijopobaaDoorW.PrintLast Go.Proofs.YtjhinklijopobaaDoorW.PrintMore
set_option linter.unusedVariables false
set_option linter.unusedSimpArgs false

/-! ### A tree that is read -/
/-- A node that reads. -/
structure Nr (W : World) (b : Nat) (x : S28) (kb : List Nat) (A2 : Option Addr) (c2 : Nat) (A3 : Option Addr) (c3 : Nat) (A4 : Option Addr) (c4 : Nat) : Prop where
  tb : Tb W b x.f0 x.f1 (.slice A2 x.f2.length c2) (.slice A3 kb.length c3) (.slice A4 x.f4.length c4)
  l2 : x.f2.length ≤ c2
  g2 : Kd.C (Kd.int .i64) W A2 x.f2.length x.f2
  l3 : kb.length ≤ c3
  g3 : Kd.C kp W A3 kb.length kb
  l4 : x.f4.length ≤ c4
  g4 : Kd.C k86 W A4 x.f4.length x.f4
theorem Nr.below {W W' : World} {b : Nat} {x : S28} {kb : List Nat} {A2 A3 A4 : Option Addr} {c2 c3 c4 : Nat} (h : Nr W b x kb A2 c2 A3 c3 A4 c4) (hb : Below W.heap.size W W') : Nr W' b x kb A2 c2 A3 c3 A4 c4 :=
  ⟨h.tb.below hb, h.l2, Kd.C_below h.g2 hb, h.l3, Kd.C_below h.g3 hb, h.l4, Kd.C_below h.g4 hb⟩
theorem Gn.reads {W : World} {lo hi b : Nat} {x : S28} {kb : List Nat} (h : Gn W lo hi b x kb) : ∃ A2 c2 A3 c3 A4 c4, Nr W b x kb A2 c2 A3 c3 A4 c4 := by
  obtain ⟨_, _, v2, v3, v4, ht, h2, h3, h4⟩ := h
  obtain ⟨A2, c2, rfl, l2, g2⟩ := Kd.R_reads h2
  obtain ⟨A3, c3, rfl, l3, g3⟩ := Kd.R_reads h3
  obtain ⟨A4, c4, rfl, l4, g4⟩ := Kd.R_reads h4
  exact ⟨A2, c2, A3, c3, A4, c4, ht, l2, g2, l3, g3, l4, g4⟩
/-- The first n nodes of a list read. -/
def Ft (W : World) (t : List S28) (n : Nat) (ps : Nat → Nat) : Prop := ∀ i (h : i < t.length), i < n → ∃ A2 c2 A3 c3 A4 c4, Nr W (ps i) (t[i]'h) ((t[i]'h).f3.map fun k => ps k.toNat) A2 c2 A3 c3 A4 c4
theorem Fo.reads {base : Nat} {W : World} {t : List S28} {n : Nat} {ps lo : Nat → Nat} (h : Fo base W t n ps lo) : Ft W t n ps := fun i hi hin => (h.nd i hi hin).reads
theorem Ft.below {W W' : World} {t : List S28} {n : Nat} {ps : Nat → Nat} (h : Ft W t n ps) (hb : Below W.heap.size W W') : Ft W' t n ps := fun i hi hin => by
  obtain ⟨A2, c2, A3, c3, A4, c4, hN⟩ := h i hi hin
  exact ⟨A2, c2, A3, c3, A4, c4, hN.below hb⟩
/-- What is known of a node that is right. -/
structure Ok (x : S28) : Prop where
  fit : Fit x
  alts : ¬ (x.f0 = 7 ∨ x.f0 = 13) → x.f4 = []
  kids : x.f0 = 7 ∨ x.f0 = 13 → x.f3.length = x.f4.length + 1
  ids : ∀ z ∈ x.f2, idz z
  aids : ∀ y ∈ x.f4, ∀ z ∈ y.f1, idz z
  var : x.f0 = 0 → idz x.f1
/-! ### Tree.Bound -/
def BdP2 (l : List Int) (w0 w : World) (e : Ending) (w' : World) : Prop := ∃ A c, e = .returned (.slice A l.length c) ∧ Kd.C (Kd.int .i64) w0 A l.length l ∧ w = w'
theorem BdP2.mk {l : List Int} {w0 w : World} {A : Option Addr} {c : Nat} (hC : Kd.C (Kd.int .i64) w0 A l.length l) : BdP2 l w0 w (.returned (.slice A l.length c)) w := ⟨A, c, rfl, hC, rfl⟩
theorem BdP2.nil (w0 w : World) : BdP2 [] w0 w (.returned (.slice none 0 0)) w := ⟨none, 0, rfl, Kd.C_nil _ _, rfl⟩
set_option maxHeartbeats 4000000 in
set_option maxRecDepth 100000 in
theorem bound_calls (x : S28) (hx : Ok x) (k : Nat) (hk : k < x.f3.length) (hk9 : (k : Int) ≤ 4096) (b : Nat) (kb : List Nat) (A2 A3 A4 : Option Addr) (c2 c3 c4 : Nat) (w0 w : World) (hb : Below w0.heap.size w0 w) (h : Nr w0 b x kb A2 c2 A3 c3 A4 c4) :
    Calls Tryd.prog 97 #[ptrV b, .int .i64 (k : Int)] w (BdP2 (scopeOf x k) w0 w) := by
  obtain ⟨op, n, bs, ks, al⟩ := x
  have hal := hx.alts
  have hki := hx.kids
  have ha9 : (al.length : Int) ≤ 4096 := by have := hx.fit.a; simp only at this; omega
  simp only at hal hki hk ⊢
  obtain ⟨t0, t1, t2, t3, t4⟩ := (h.tb.below hb).cells
  have H2 := Go.Lib.hid (BdP2.mk (w := w) (c := c2) h.g2)
  have H0 := Go.Lib.hid (BdP2.nil w0 w)
  have G4 := Go.Lib.hid h.g4
  have HB := Go.Lib.hid hb
  simp only at t0 t2 t4
  clear h hx hb t1 t3
  have hk0 : (0 : Int) ≤ (k : Int) := by omega
  by_cases h2 : op = 2
  · subst h2
    have e : scopeOf ⟨2, n, bs, ks, al⟩ k = bs := rfl
    rw [e]
    clear e hal hki
    go_enter Tryd.func97, Tryd.ntmps97
    go_wp2_with fail
    go_ret
    exact H2.out
  by_cases h5 : op = 5
  · subst h5
    have e : scopeOf ⟨5, n, bs, ks, al⟩ k = bs := rfl
    rw [e]
    clear e hal hki
    go_enter Tryd.func97, Tryd.ntmps97
    go_wp2_with fail
    go_ret
    exact H2.out
  have f2 : (op == 2) = false := beq_eq_false_iff_ne.2 h2
  have f5 : (op == 5) = false := beq_eq_false_iff_ne.2 h5
  by_cases h7 : op = 7 ∨ op = 13
  · have f4 : (op == 4) = false := beq_eq_false_iff_ne.2 (by omega)
    have hkl := hki h7
    have hkx : k ≤ al.length := by omega
    by_cases hk1 : 0 < k
    · have e : scopeOf ⟨op, n, bs, ks, al⟩ k = (rd_T86 al (k - 1 : Nat)).f1 := by
        unfold scopeOf
        rw [if_neg (by simp only; omega), if_pos ⟨h7, hk1⟩]
      rw [e]
      have d0 : decide ((0 : Int) < (al.length : Int)) = true := decide_eq_true (by omega)
      have d0' : decide (0 < al.length) = true := decide_eq_true (by omega)
      have d1 : decide ((0 : Int) < (k : Int)) = true := decide_eq_true (by omega)
      have d1' : decide (0 < k) = true := decide_eq_true hk1
      have d2 : decide ((k : Int) ≤ (al.length : Int)) = true := decide_eq_true (by omega)
      have d2' : decide (k ≤ al.length) = true := decide_eq_true hkx
      have hi0 : (0 : Int) ≤ (k : Int) - 1 := by omega
      have hi1 : (k : Int) - 1 < (al.length : Int) := by omega
      have hi2 : (1 : Int) ≤ (k : Int) := by omega
      have hin : ((k : Int) - 1).toNat = k - 1 := by omega
      obtain ⟨ad, A1, c1, e_, p0, p1, q1, q2⟩ := at_T86 G4.out ((k : Int) - 1) hi0 hi1
      cases e_
      have e3 : (k : Int) - 1 = ((k - 1 : Nat) : Int) := by omega
      rw [hin] at p0 p1
      rw [e3] at p0 p1 q1 q2
      replace p1 := pw_cell_below HB.out p1
      generalize rd_T86 al ((k - 1 : Nat) : Int) = a at p0 p1 q1 q2
      have HV := Go.Lib.hid (BdP2.mk (w := w) (c := c1) q2)
      clear e e3 hkl hal hki h7 q1 q2 p0 h2 h5
      go_enter Tryd.func97, Tryd.ntmps97
      go_wp2_with fail
      go_ret
      exact HV.out
    · have e : scopeOf ⟨op, n, bs, ks, al⟩ k = [] := by
        unfold scopeOf
        rw [if_neg (by simp only; omega), if_neg (by omega)]
      rw [e]
      have d1 : decide ((0 : Int) < (k : Int)) = false := decide_eq_false (by omega)
      have d1' : decide (0 < k) = false := decide_eq_false hk1
      clear e hkl hal hki h7 h2 h5
      go_enter Tryd.func97, Tryd.ntmps97
      go_wp2_with fail
      all_goals
        go_ret
        exact H0.out
  · have hal0 := hal h7
    subst hal0
    by_cases h4 : op = 4 ∧ k = 1
    · obtain ⟨rfl, rfl⟩ := h4
      have e : scopeOf ⟨4, n, bs, ks, []⟩ 1 = bs := rfl
      rw [e]
      clear e hal hki h7
      go_enter Tryd.func97, Tryd.ntmps97
      go_wp2_with fail
      go_ret
      exact H2.out
    · have e : scopeOf ⟨op, n, bs, ks, []⟩ k = [] := by
        unfold scopeOf
        rw [if_neg (by simp only; omega), if_neg (by simp only; omega)]
      rw [e]
      have hc : (op == 4) = false ∨ ((op == 4) = true ∧ ((k : Int) == 1) = false) := by
        by_cases h : op = 4
        · exact Or.inr ⟨beq_iff_eq.2 h, beq_eq_false_iff_ne.2 (by omega)⟩
        · exact Or.inl (beq_eq_false_iff_ne.2 h)
      clear e hal hki h7 h4 h2 h5
      rcases hc with f4 | ⟨f4, f1⟩
      · go_enter Tryd.func97, Tryd.ntmps97
        go_wp2_with fail
        go_ret
        exact H0.out
      · have f1' : (k == 1) = false := by
          have := beq_eq_false_iff_ne.1 f1
          exact beq_eq_false_iff_ne.2 (by omega)
        go_enter Tryd.func97, Tryd.ntmps97
        go_wp2_with fail
        go_ret
        exact H0.out
end Go.Proofs.YtjhinklijopobaaDoor.Co
namespace Go.Proofs.YtjhinklijopobaaDoor.Co
open Go.RowKit Go.Proofs.YtjhinklijopobaaDoor.PCoreChecks Go.Proofs.YtjhinklijopobaaDoorW.PrintWords Go.Proofs.YtjhinklijopobaaDoorW.PrintLast Go.Proofs.YtjhinklijopobaaDoorW.PrintMore
set_option linter.unusedVariables false
set_option linter.unusedSimpArgs false

/-! ### core.free -/
/-- The counts with a row added. -/
def addC (f : Int → Int) (l : List Int) : Int → Int := fun z => f z + ((l.count z : Nat) : Int)
theorem addC_nil (f : Int → Int) (z : Int) : addC f [] z = f z := by simp [addC]
theorem addC_up (f : Int → Int) (l : List Int) (j : Nat) (hj : j < l.length) (z : Int) : upd (addC f (l.take j)) (l[j]'hj) (addC f (l.take j) (l[j]'hj) + 1) z = addC f (l.take (j + 1)) z := by
  unfold upd addC
  rw [List.take_succ_eq_append_getElem hj]
  by_cases e : z = l[j]'hj
  · rw [if_pos e, ← e, List.count_append, List.count_singleton]; simp; omega
  · rw [if_neg e, List.count_append, List.count_singleton]
    have : ¬ ((l[j]'hj) == z) = true := by simp; exact fun h => e h.symm
    rw [if_neg this]; simp
theorem addC_down (f : Int → Int) (l : List Int) (j : Nat) (hj : j < l.length) (z : Int) : upd (addC f (l.drop j)) (l[j]'hj) (addC f (l.drop j) (l[j]'hj) - 1) z = addC f (l.drop (j + 1)) z := by
  unfold upd addC
  have e0 : l.drop j = (l[j]'hj) :: l.drop (j + 1) := List.drop_eq_getElem_cons hj
  rw [e0]
  by_cases e : z = l[j]'hj
  · rw [if_pos e, ← e, List.count_cons_self]; omega
  · rw [if_neg e, List.count_cons_of_ne (fun h => e h.symm)]
theorem addC_bound {f : Int → Int} {B : Int} (h : ∀ z, 0 ≤ f z ∧ f z ≤ B) {l : List Int} (hl : l.length ≤ 16) (z : Int) : 0 ≤ addC f l z ∧ addC f l z ≤ B + 16 := by
  have h1 := h z
  have h2 := List.count_le_length (l := l) (a := z)
  unfold addC; omega
theorem addC_zero {f : Int → Int} (h : ∀ z, 0 ≤ f z) (l : List Int) (z : Int) : addC f l z = 0 ↔ z ∉ l ∧ f z = 0 := by
  have h1 := h z
  unfold addC
  constructor
  · intro h2
    have h3 : l.count z = 0 := by omega
    exact ⟨List.count_eq_zero.1 h3, by omega⟩
  · rintro ⟨h2, h3⟩
    rw [List.count_eq_zero.2 h2, h3]; rfl
/-- What the first k kids of node i add. -/
def FK (t : List S28) (i k : Nat) (z : Int) : Prop := ∃ (h : i < t.length) (k' : Nat) (hk : k' < (t[i]'h).f3.length) (c : Nat), k' < k ∧ (t[i]'h).f3[k']'hk = (c : Int) ∧ z ∉ scopeOf (t[i]'h) k' ∧ Fv t c z
theorem FK.zero {t : List S28} {i : Nat} {z : Int} : ¬ FK t i 0 z := by rintro ⟨_, k', _, c, h, _⟩; omega
theorem FK.succ {t : List S28} {i : Nat} (h : i < t.length) {k : Nat} (hk : k < (t[i]'h).f3.length) {c : Nat} (hc : (t[i]'h).f3[k]'hk = (c : Int)) {z : Int} : FK t i (k + 1) z ↔ FK t i k z ∨ (z ∉ scopeOf (t[i]'h) k ∧ Fv t c z) := by
  constructor
  · rintro ⟨h1, k', hk', c', h2, h3, h4, h5⟩
    by_cases e : k' = k
    · subst e
      rw [hc] at h3
      have : c = c' := by omega
      subst this
      exact Or.inr ⟨h4, h5⟩
    · exact Or.inl ⟨h1, k', hk', c', by omega, h3, h4, h5⟩
  · rintro (⟨h1, k', hk', c', h2, h3, h4, h5⟩ | ⟨h4, h5⟩)
    · exact ⟨h1, k', hk', c', by omega, h3, h4, h5⟩
    · exact ⟨h, k, hk, c, by omega, hc, h4, h5⟩
theorem Fv_iff {t : List S28} {i : Nat} (h : i < t.length) {z : Int} : Fv t i z ↔ ((t[i]'h).f0 = 0 ∧ z = (t[i]'h).f1) ∨ FK t i (t[i]'h).f3.length z := by
  constructor
  · intro hf
    cases hf with
    | var _ _ h0 => exact Or.inl ⟨h0, rfl⟩
    | kid _ _ k hk c _ hc hn hf => exact Or.inr ⟨h, k, hk, c, hk, hc, hn, hf⟩
  · rintro (⟨h0, rfl⟩ | ⟨h1, k, hk, c, _, hc, hn, hf⟩)
    · exact Fv.var i h h0
    · exact Fv.kid i h k hk c z hc hn hf
theorem scope_len {x : S28} (h : Fit x) (k : Nat) : (scopeOf x k).length ≤ 16 := by
  unfold scopeOf
  split
  · exact h.b
  · split
    · unfold rd_T86
      rw [List.getD_eq_getElem?_getD]
      cases e : x.f4[(((k - 1 : Nat) : Int)).toNat]? with
      | none => simp [z86]
      | some y => exact h.ab y (List.mem_of_getElem? e)
    · simp
theorem scope_ids {x : S28} (h : Ok x) (k : Nat) : ∀ z ∈ scopeOf x k, idz z := by
  intro z hz
  unfold scopeOf at hz
  split at hz
  · exact h.ids z hz
  · split at hz
    · unfold rd_T86 at hz
      rw [List.getD_eq_getElem?_getD] at hz
      cases e : x.f4[(((k - 1 : Nat) : Int)).toNat]? with
      | none => rw [e] at hz; simp [z86] at hz
      | some y => rw [e] at hz; exact h.aids y (List.mem_of_getElem? e) z hz
    · simp at hz
/-- The state of the two maps. -/
structure Fs (w0 W : World) (mb ob : Nat) (f : Int → Int) (S : Int → Prop) : Prop where
  bl : Below w0.heap.size w0 W
  m : Mi W mb f
  s : So W ob S
theorem Fs.congr {w0 W : World} {mb ob : Nat} {f g : Int → Int} {S T : Int → Prop} (h : Fs w0 W mb ob f S) (hf : ∀ z, f z = g z) (hs : ∀ z, S z ↔ T z) : Fs w0 W mb ob g T := ⟨h.bl, h.m.congr hf, h.s.congr hs⟩
theorem Fs.setm {w0 W W' : World} {mb ob : Nat} {f g : Int → Int} {S : Int → Prop} (h : Fs w0 W mb ob f S) (hne : mb ≠ ob) (hm : w0.heap.size ≤ mb) (h1 : Mi W' mb g) (hg : W.grownBy W' (some mb)) : Fs w0 W' mb ob g S :=
  ⟨h.bl.grown hg h.bl.size (fun k hk => by cases hk; exact hm), h1, h.s.kept hg (by simp; exact fun e => hne e.symm)⟩
theorem Fs.sets {w0 W W' : World} {mb ob : Nat} {f : Int → Int} {S T : Int → Prop} (h : Fs w0 W mb ob f S) (hne : mb ≠ ob) (ho : w0.heap.size ≤ ob) (h1 : So W' ob T) (hg : W.grownBy W' (some ob)) : Fs w0 W' mb ob f T :=
  ⟨h.bl.grown hg h.bl.size (fun k hk => by cases hk; exact ho), h.m.kept hg (by simp; exact hne), h1⟩
def FrP (w0 : World) (t : List S28) (i : Nat) (mb ob : Nat) (f : Int → Int) (S : Int → Prop) (e : Ending) (w' : World) : Prop := e = .returned (.tuple #[]) ∧ Fs w0 w' mb ob f (fun z => S z ∨ (Fv t i z ∧ f z = 0))
end Go.Proofs.YtjhinklijopobaaDoor.Co
namespace Go.Proofs.YtjhinklijopobaaDoor.Co
open Go.RowKit Go.Proofs.YtjhinklijopobaaDoor.PCoreChecks Go.Proofs.YtjhinklijopobaaDoorW.PrintWords Go.Proofs.YtjhinklijopobaaDoorW.PrintLast Go.Proofs.YtjhinklijopobaaDoorW.PrintMore
set_option linter.unusedVariables false
set_option linter.unusedSimpArgs false

set_option maxRecDepth 100000 in
theorem Mi.run {w : World} {mb : Nat} {f : Int → Int} (h : Mi w mb f) {z : Int} (hz : (Lit.int .i64 z).wf = true) : (Instr.lookup 99 (.map (some mb)) (.int .i64 z) false).run Tryd.prog w = .ok (.int .i64 (f z)) w := by
  obtain ⟨D, h1, h2, h3⟩ := h
  obtain ⟨c, hrun, hat, _⟩ := h1.lookup_int kd3 Tryd.underlying99 Tryd.underlying3 (zero3 w) (key3 hz)
  have e : c = f z := by
    have := hat.symm.trans (h2 z)
    injection this with this
    exact lit_inj this
  rw [e] at hrun
  exact hrun

set_option maxHeartbeats 16000000 in
set_option maxRecDepth 100000 in
theorem free_calls (w0 : World) (t : List S28) (ps : Nat → Nat) (N : Nat) (hT : Ft w0 t N ps) (htr : treeB t = true) (hn : t.length ≤ 4096) (hok : ∀ x ∈ t, Ok x) (mb ob : Nat) (hmo : mb ≠ ob) (hm : w0.heap.size ≤ mb) (ho : w0.heap.size ≤ ob) :
    ∀ (m i : Nat), i < m → i < t.length → i < N → ∀ (W : World) (f : Int → Int) (S : Int → Prop), Fs w0 W mb ob f S → (∀ z, 0 ≤ f z ∧ f z ≤ ((t.length - i : Nat) : Int) * 16) →
      Calls Tryd.prog 79 #[ptrV (ps i), .map (some mb), .map (some ob)] W (FrP w0 t i mb ob f S) := by
  intro m
  induction m with
  | zero => intro i hi; omega
  | succ m ih =>
    intro i him hi hiN W f S hfs hbf
    have HIH := Go.Lib.hid ih
    have HTR := Go.Lib.hid htr
    have HMO := Go.Lib.hid hmo
    have HM := Go.Lib.hid hm
    have HO := Go.Lib.hid ho
    have HI := Go.Lib.hid hi
    have HIM := Go.Lib.hid him
    have HIN := Go.Lib.hid hiN
    have HBF := Go.Lib.hid hbf
    have HN := Go.Lib.hid hn
    obtain ⟨A2, c2, A3, c3, A4, c4, hN⟩ := hT i hi hiN
    have HNR := Go.Lib.hid hN
    have HOK := Go.Lib.hid (hok _ (List.getElem_mem hi))
    have HKD := Go.Lib.hid (fun k (hk : k ∈ (t[i]'hi).f3) => badK_mem (rB_at (treeB_parts htr).2.1 i hi) hk)
    have HKL := Go.Lib.hid (kids_len htr hi)
    have HFV := Go.Lib.hid (fun z => Fv_iff (t := t) hi (z := z))
    have HFK := Go.Lib.hid (fun (k : Nat) (hk : k < (t[i]'hi).f3.length) (c : Nat) (hc : (t[i]'hi).f3[k]'hk = (c : Int)) (z : Int) => FK.succ hi hk hc (z := z))
    generalize t[i]'hi = x at hN HNR HOK HKD HKL HFV HFK
    obtain ⟨t0, t1, t2, t3, t4⟩ := (hN.tb.below hfs.bl).cells
    have HFS := Go.Lib.hid hfs
    clear ih htr hmo hm ho hi him hiN hbf hn hN hT hok hfs t2 t4
    obtain ⟨op, hop⟩ : ∃ op, op = x.f0 := ⟨_, rfl⟩
    obtain ⟨n, hnn⟩ : ∃ n, n = x.f1 := ⟨_, rfl⟩
    rw [← hop] at t0
    rw [← hnn] at t1
    have HOP := Go.Lib.hid hop
    have HNN := Go.Lib.hid hnn
    clear hop hnn
    have hcase : (op = 0 ∧ f n = 0) ∨ (op = 0 ∧ f n ≠ 0) ∨ op ≠ 0 := by
      by_cases h : op = 0
      · by_cases h2 : f n = 0
        · exact Or.inl ⟨h, h2⟩
        · exact Or.inr (Or.inl ⟨h, h2⟩)
      · exact Or.inr (Or.inr h)
    rcases hcase with ⟨h0, h1⟩ | ⟨h0, h1⟩ | h0
    · have e0 : (op == 0) = true := beq_iff_eq.2 h0
      have e1 : (f n == 0) = true := beq_iff_eq.2 h1
      have HID := Go.Lib.hid (show idz n by rw [HNN.out]; exact HOK.out.var (by rw [← HOP.out]; exact h0))
      have HS1 := Go.Lib.hid (show ∀ z, (z = n ∨ S z) ↔ (S z ∨ (op = 0 ∧ z = n ∧ f z = 0)) from fun z => by
        constructor
        · rintro (rfl | h)
          · exact Or.inr ⟨h0, rfl, h1⟩
          · exact Or.inl h
        · rintro (h | ⟨_, rfl, _⟩)
          · exact Or.inr h
          · exact Or.inl rfl)
      clear h0 h1
      have hrun := HFS.out.m.run (idz_wf HID.out)
      go_enter Tryd.func79, Tryd.ntmps79
      go_wp2_with (first | (at_mapUpdate; refine wp_out _ rfl _ _ _ rfl ob S rfl HFS.out.s n rfl HID.out rfl ?_; intro W1 hs1 hg1; have HF1 := Go.Lib.hid ((HFS.out.sets HMO.out HO.out hs1 hg1).congr (fun _ => rfl) HS1.out); have t3' := ((HNR.out.tb.below HF1.out.bl).cells).2.2.2.1; clear t0 t1 t3 hs1 hg1) | fail)
      clear t3' hrun e0 e1
      have hk9 : (x.f3.length : Int) ≤ 4096 := by have := HKL.out; have := HI.out; have := HN.out; omega
      have hkb9 : (((x.f3.map fun k => ps k.toNat).length : Nat) : Int) ≤ 4096 := by rw [List.length_map]; omega
      go_loopg [38] x.f3.length (fun g_ v38 w' => ∃ k : Nat, Hid (k + g_ = x.f3.length) ∧ v38 = .int .i64 k ∧ Hid (Fs w0 w' mb ob f (fun z => (S z ∨ (op = 0 ∧ z = n ∧ f z = 0)) ∨ (FK t i k z ∧ f z = 0))))
      case atStart => exact ⟨0, Go.Lib.hid (by omega), rfl, Go.Lib.hid (HF1.out.congr (fun _ => rfl) (fun z => ⟨Or.inl, fun h => h.elim id (fun h => absurd h.1 FK.zero)⟩))⟩
      case round =>
        clear HF1 HFS
        obtain ⟨k, hk, rfl, hfs⟩ := hrel
        obtain ⟨wo, hwo⟩ : ∃ wo : World, wo = wr := ⟨_, rfl⟩
        subst hwo
        obtain ⟨ga, hga⟩ : ∃ ga : Nat, ga = gk := ⟨_, rfl⟩
        subst hga
        by_cases hlt : k < x.f3.length
        · have hltk : (k : Int) < (((x.f3.map fun k => ps k.toNat).length : Nat) : Int) := by rw [List.length_map]; omega
          have hltk' : decide (k < (x.f3.map fun k => ps k.toNat).length) = true := decide_eq_true (by rw [List.length_map]; exact hlt)
          have hk0 : (0 : Int) ≤ (k : Int) := by omega
          have HK := Go.Lib.hid hlt
          have hG3 := HNR.out.g3
          obtain ⟨ad, cs, e_, _, hK, hcell⟩ := Kd.C_get hG3 (0 : Nat) (k : Int) hk0 hltk
          have hK' : cs = [ptrV ((x.f3.map fun k => ps k.toNat).getD (k : Int).toNat 0)] := hK
          subst hK'
          have q0 := hcell 0 _ rfl
          have hk1 : kp.sz = 1 := rfl
          rw [hk1, Int.toNat_natCast, Nat.mul_one, Nat.add_zero, List.getD_eq_getElem?_getD, List.getElem?_map, List.getElem?_eq_getElem hlt] at q0
          cases e_
          obtain ⟨c, hc⟩ : ∃ c : Nat, x.f3[k]'hlt = (c : Int) := ⟨(x.f3[k]'hlt).toNat, by have := HKD.out _ (List.getElem_mem hlt); omega⟩
          have hcb := HKD.out _ (List.getElem_mem hlt)
          rw [hc] at hcb
          simp only [hc, Option.map_some, Option.getD_some, Int.toNat_natCast] at q0
          have HFKS := Go.Lib.hid (HFK.out k hlt c hc)
          have HCI := Go.Lib.hid (show c < i by omega)
          replace q0 := pw_cell_below hfs.out.bl q0
          have HBC := Go.Lib.hid (bound_calls x HOK.out k hlt (by omega) (ps i) _ A2 (some ad) A4 c2 c3 c4 w0 wo hfs.out.bl HNR.out)
          have HLL := Go.Lib.hid (scope_len HOK.out.fit k)
          have HLI := Go.Lib.hid (scope_ids HOK.out k)
          clear hlt hc hcb hG3 hK hcell hk1
          generalize scopeOf x k = l at HBC HLL HLI HFKS
          have hl9 : (l.length : Int) ≤ 16 := by have := HLL.out; omega
          go_wp2_with fail
          refine HBC.out.mono ?_
          rintro e w' ⟨A, cA, rfl, hCA, rfl⟩
          have HCA := Go.Lib.hid hCA
          clear hCA HBC q0
          go_wp2_with fail
          go_loopg [48] l.length (fun g_ v48 w' => ∃ j : Nat, Hid (j + g_ = l.length) ∧ v48 = .int .i64 j ∧ Hid (Fs w0 w' mb ob (addC f (l.take j)) (fun z => (S z ∨ (op = 0 ∧ z = n ∧ f z = 0)) ∨ (FK t i k z ∧ f z = 0))))
          case atStart => exact ⟨0, Go.Lib.hid (by omega), rfl, Go.Lib.hid (hfs.out.congr (fun z => (addC_nil f z).symm) (fun _ => Iff.rfl))⟩
          case round =>
            clear hfs
            obtain ⟨j, hj, rfl, hfs⟩ := hrel
            obtain ⟨wi, hwi⟩ : ∃ wi : World, wi = wr := ⟨_, rfl⟩
            subst hwi
            by_cases hlt : j < l.length
            · have hltj : (j : Int) < (l.length : Int) := by omega
              have hj0 : (0 : Int) ≤ (j : Int) := by omega
              have HJ := Go.Lib.hid hlt
              obtain ⟨ad5, e_, p0⟩ := Kd.at_int (Kd.C_below HCA.out hfs.out.bl) (j : Int) hj0 hltj
              cases e_
              rw [rd_nat l j hlt, Int.toNat_natCast] at p0
              have HUP := Go.Lib.hid (addC_up f l j hlt)
              have HZI := Go.Lib.hid (HLI.out _ (List.getElem_mem hlt))
              have hab := addC_bound HBF.out (l := l.take j) (by rw [List.length_take]; have := HLL.out; omega) (l[j]'hlt)
              generalize l[j]'hlt = z at p0 HUP HZI hab
              have hv0 := hab.1
              have hv1 : addC f (l.take j) z ≤ 70000 := by have h1 := hab.2; have h2 := HN.out; omega
              have HWF := Go.Lib.hid (show (Lit.int .i64 (addC f (l.take j) z + 1)).wf = true from wf64 (by omega) (by omega))
              clear hlt hab
              go_wp2_with (first | (at_lookup; refine wp_get _ rfl _ _ rfl mb _ rfl hfs.out.m z rfl (idz_wf HZI.out) ?_) | (at_mapUpdate; refine wp_set _ rfl _ _ _ rfl mb _ rfl hfs.out.m z _ rfl HZI.out rfl HWF.out ?_; intro w5 hs5 hg5; have HF5 := Go.Lib.hid ((hfs.out.setm HMO.out HM.out hs5 hg5).congr HUP.out (fun _ => Iff.rfl)); clear hs5 hg5) | fail)
              go_roundg (gk - 1)
              case measure => have := hj.out; have := HJ.out; omega
              case rel => exact ⟨j + 1, Go.Lib.hid (by have := hj.out; have := HJ.out; omega), by go_num, HF5⟩
            · have hd : decide ((j : Int) < (l.length : Int)) = false := decide_eq_false (by omega)
              have hd2 : decide (j < l.length) = false := decide_eq_false hlt
              have HFA := Go.Lib.hid (show Fs w0 wi mb ob (addC f l) (fun z => (S z ∨ (op = 0 ∧ z = n ∧ f z = 0)) ∨ (FK t i k z ∧ f z = 0)) by have h := hfs.out; rw [List.take_of_length_le (by omega)] at h; exact h)
              have HRC := Go.Lib.hid (HIH.out c (by have := HCI.out; have := HIM.out; omega) (by have := HCI.out; have := HI.out; omega) (by have := HCI.out; have := HIN.out; omega) wi _ _ HFA.out (fun z => by
                have h1 := addC_bound HBF.out (l := l) (by have := HLL.out; omega) z
                have h2 := HCI.out
                have h3 := HI.out
                exact ⟨h1.1, by omega⟩))
              clear hlt hfs hj
              go_wp2_with fail
              refine HRC.out.mono ?_
              rintro e w7 ⟨rfl, hf7⟩
              have HF7 := Go.Lib.hid (hf7.congr (T := fun z => (S z ∨ (op = 0 ∧ z = n ∧ f z = 0)) ∨ (FK t i (k + 1) z ∧ f z = 0)) (fun z => show addC f l z = addC f (l.drop 0) z by rw [List.drop_zero]) (fun z => by
                have h1 := addC_zero (fun z => (HBF.out z).1) l z
                have h2 := HFKS.out z
                constructor
                · rintro (h | ⟨h3, h4⟩)
                  · rcases h with h | ⟨h, h5⟩
                    · exact Or.inl h
                    · exact Or.inr ⟨h2.2 (Or.inl h), h5⟩
                  · have h5 := h1.1 h4
                    exact Or.inr ⟨h2.2 (Or.inr ⟨h5.1, h3⟩), h5.2⟩
                · rintro (h | ⟨h3, h4⟩)
                  · exact Or.inl (Or.inl h)
                  · rcases h2.1 h3 with h | ⟨h, h5⟩
                    · exact Or.inl (Or.inr ⟨h, h4⟩)
                    · exact Or.inr ⟨h5, h1.2 ⟨h, h4⟩⟩))
              clear hf7 HRC HFA
              go_wp2_with fail
              go_loopg [63] l.length (fun g_ v63 w' => ∃ j : Nat, Hid (j + g_ = l.length) ∧ v63 = .int .i64 j ∧ Hid (Fs w0 w' mb ob (addC f (l.drop j)) (fun z => (S z ∨ (op = 0 ∧ z = n ∧ f z = 0)) ∨ (FK t i (k + 1) z ∧ f z = 0))))
              case atStart => exact ⟨0, Go.Lib.hid (by omega), rfl, HF7⟩
              case round =>
                clear HF7
                obtain ⟨j, hj, rfl, hfs⟩ := hrel
                obtain ⟨wi, hwi⟩ : ∃ wi : World, wi = wr := ⟨_, rfl⟩
                subst hwi
                by_cases hlt : j < l.length
                · have hltj : (j : Int) < (l.length : Int) := by omega
                  have hj0 : (0 : Int) ≤ (j : Int) := by omega
                  have HJ := Go.Lib.hid hlt
                  obtain ⟨ad5, e_, p0⟩ := Kd.at_int (Kd.C_below HCA.out hfs.out.bl) (j : Int) hj0 hltj
                  cases e_
                  rw [rd_nat l j hlt, Int.toNat_natCast] at p0
                  have HUP := Go.Lib.hid (addC_down f l j hlt)
                  have HZI := Go.Lib.hid (HLI.out _ (List.getElem_mem hlt))
                  have hab := addC_bound HBF.out (l := l.drop j) (by rw [List.length_drop]; have := HLL.out; omega) (l[j]'hlt)
                  generalize l[j]'hlt = z at p0 HUP HZI hab
                  have hv0 := hab.1
                  have hv1 : addC f (l.drop j) z ≤ 70000 := by have h1 := hab.2; have h2 := HN.out; omega
                  have HWF := Go.Lib.hid (show (Lit.int .i64 (addC f (l.drop j) z - 1)).wf = true from wf64 (by omega) (by omega))
                  clear hlt hab
                  go_wp2_with (first | (at_lookup; refine wp_get _ rfl _ _ rfl mb _ rfl hfs.out.m z rfl (idz_wf HZI.out) ?_) | (at_mapUpdate; refine wp_set _ rfl _ _ _ rfl mb _ rfl hfs.out.m z _ rfl HZI.out rfl HWF.out ?_; intro w5 hs5 hg5; have HF5 := Go.Lib.hid ((hfs.out.setm HMO.out HM.out hs5 hg5).congr HUP.out (fun _ => Iff.rfl)); clear hs5 hg5) | fail)
                  go_roundg (gk - 1)
                  case measure => have := hj.out; have := HJ.out; omega
                  case rel => exact ⟨j + 1, Go.Lib.hid (by have := hj.out; have := HJ.out; omega), by go_num, HF5⟩
                · have hd : decide ((j : Int) < (l.length : Int)) = false := decide_eq_false (by omega)
                  have hd2 : decide (j < l.length) = false := decide_eq_false hlt
                  have HFE := Go.Lib.hid (hfs.out.congr (g := f) (fun z => by rw [List.drop_of_length_le (by omega)]; exact addC_nil f z) (fun _ => Iff.rfl))
                  clear hlt hfs hj
                  go_wp2_with fail
                  go_roundg (ga - 1)
                  case measure => have := hk.out; have := HK.out; omega
                  case rel => exact ⟨k + 1, Go.Lib.hid (by have := hk.out; have := HK.out; omega), by go_num, HFE⟩
        · have hd : decide ((k : Int) < (((x.f3.map fun k => ps k.toNat).length : Nat) : Int)) = false := decide_eq_false (by rw [List.length_map]; omega)
          have hd2 : decide (k < (x.f3.map fun k => ps k.toNat).length) = false := decide_eq_false (by rw [List.length_map]; exact hlt)
          have hd3 : decide ((k : Int) < (x.f3.length : Int)) = false := decide_eq_false (by omega)
          have hd4 : decide (k < x.f3.length) = false := decide_eq_false hlt
          have HE := Go.Lib.hid (show FrP w0 t i mb ob f S (.returned (.tuple #[])) wo from ⟨rfl, hfs.out.congr (fun _ => rfl) (fun z => by
            have h1 := HFV.out z
            rw [← HOP.out, ← HNN.out] at h1
            rw [show k = x.f3.length by have := hk.out; omega]
            constructor
            · rintro ((h | ⟨h2, h3, h4⟩) | ⟨h2, h3⟩)
              · exact Or.inl h
              · exact Or.inr ⟨h1.2 (Or.inl ⟨h2, h3⟩), h4⟩
              · exact Or.inr ⟨h1.2 (Or.inr h2), h3⟩
            · rintro (h | ⟨h2, h3⟩)
              · exact Or.inl (Or.inl h)
              · rcases h1.1 h2 with ⟨h4, h5⟩ | h4
                · exact Or.inl (Or.inr ⟨h4, h5, h3⟩)
                · exact Or.inr ⟨h4, h3⟩)⟩)
          clear hlt hfs hk
          go_wp2_with fail
          refine bodyPost_end (results_none rfl _ _ _) rfl ?_
          exact HE.out
    · have e0 : (op == 0) = true := beq_iff_eq.2 h0
      have e1 : (f n == 0) = false := beq_eq_false_iff_ne.2 h1
      have HID := Go.Lib.hid (show idz n by rw [HNN.out]; exact HOK.out.var (by rw [← HOP.out]; exact h0))
      have HF1 := Go.Lib.hid (HFS.out.congr (T := fun z => S z ∨ (op = 0 ∧ z = n ∧ f z = 0)) (fun _ => rfl) (fun z => by
        constructor
        · exact Or.inl
        · rintro (h | ⟨_, rfl, h⟩)
          · exact h
          · exact absurd h h1))
      clear h0 h1
      have hrun := HFS.out.m.run (idz_wf HID.out)
      go_enter Tryd.func79, Tryd.ntmps79
      go_wp2_with fail
      clear t0 t1 t3 hrun e0 e1
      have hk9 : (x.f3.length : Int) ≤ 4096 := by have := HKL.out; have := HI.out; have := HN.out; omega
      have hkb9 : (((x.f3.map fun k => ps k.toNat).length : Nat) : Int) ≤ 4096 := by rw [List.length_map]; omega
      go_loopg [38] x.f3.length (fun g_ v38 w' => ∃ k : Nat, Hid (k + g_ = x.f3.length) ∧ v38 = .int .i64 k ∧ Hid (Fs w0 w' mb ob f (fun z => (S z ∨ (op = 0 ∧ z = n ∧ f z = 0)) ∨ (FK t i k z ∧ f z = 0))))
      case atStart => exact ⟨0, Go.Lib.hid (by omega), rfl, Go.Lib.hid (HF1.out.congr (fun _ => rfl) (fun z => ⟨Or.inl, fun h => h.elim id (fun h => absurd h.1 FK.zero)⟩))⟩
      case round =>
        clear HF1 HFS
        obtain ⟨k, hk, rfl, hfs⟩ := hrel
        obtain ⟨wo, hwo⟩ : ∃ wo : World, wo = wr := ⟨_, rfl⟩
        subst hwo
        obtain ⟨ga, hga⟩ : ∃ ga : Nat, ga = gk := ⟨_, rfl⟩
        subst hga
        by_cases hlt : k < x.f3.length
        · have hltk : (k : Int) < (((x.f3.map fun k => ps k.toNat).length : Nat) : Int) := by rw [List.length_map]; omega
          have hltk' : decide (k < (x.f3.map fun k => ps k.toNat).length) = true := decide_eq_true (by rw [List.length_map]; exact hlt)
          have hk0 : (0 : Int) ≤ (k : Int) := by omega
          have HK := Go.Lib.hid hlt
          have hG3 := HNR.out.g3
          obtain ⟨ad, cs, e_, _, hK, hcell⟩ := Kd.C_get hG3 (0 : Nat) (k : Int) hk0 hltk
          have hK' : cs = [ptrV ((x.f3.map fun k => ps k.toNat).getD (k : Int).toNat 0)] := hK
          subst hK'
          have q0 := hcell 0 _ rfl
          have hk1 : kp.sz = 1 := rfl
          rw [hk1, Int.toNat_natCast, Nat.mul_one, Nat.add_zero, List.getD_eq_getElem?_getD, List.getElem?_map, List.getElem?_eq_getElem hlt] at q0
          cases e_
          obtain ⟨c, hc⟩ : ∃ c : Nat, x.f3[k]'hlt = (c : Int) := ⟨(x.f3[k]'hlt).toNat, by have := HKD.out _ (List.getElem_mem hlt); omega⟩
          have hcb := HKD.out _ (List.getElem_mem hlt)
          rw [hc] at hcb
          simp only [hc, Option.map_some, Option.getD_some, Int.toNat_natCast] at q0
          have HFKS := Go.Lib.hid (HFK.out k hlt c hc)
          have HCI := Go.Lib.hid (show c < i by omega)
          replace q0 := pw_cell_below hfs.out.bl q0
          have HBC := Go.Lib.hid (bound_calls x HOK.out k hlt (by omega) (ps i) _ A2 (some ad) A4 c2 c3 c4 w0 wo hfs.out.bl HNR.out)
          have HLL := Go.Lib.hid (scope_len HOK.out.fit k)
          have HLI := Go.Lib.hid (scope_ids HOK.out k)
          clear hlt hc hcb hG3 hK hcell hk1
          generalize scopeOf x k = l at HBC HLL HLI HFKS
          have hl9 : (l.length : Int) ≤ 16 := by have := HLL.out; omega
          go_wp2_with fail
          refine HBC.out.mono ?_
          rintro e w' ⟨A, cA, rfl, hCA, rfl⟩
          have HCA := Go.Lib.hid hCA
          clear hCA HBC q0
          go_wp2_with fail
          go_loopg [48] l.length (fun g_ v48 w' => ∃ j : Nat, Hid (j + g_ = l.length) ∧ v48 = .int .i64 j ∧ Hid (Fs w0 w' mb ob (addC f (l.take j)) (fun z => (S z ∨ (op = 0 ∧ z = n ∧ f z = 0)) ∨ (FK t i k z ∧ f z = 0))))
          case atStart => exact ⟨0, Go.Lib.hid (by omega), rfl, Go.Lib.hid (hfs.out.congr (fun z => (addC_nil f z).symm) (fun _ => Iff.rfl))⟩
          case round =>
            clear hfs
            obtain ⟨j, hj, rfl, hfs⟩ := hrel
            obtain ⟨wi, hwi⟩ : ∃ wi : World, wi = wr := ⟨_, rfl⟩
            subst hwi
            by_cases hlt : j < l.length
            · have hltj : (j : Int) < (l.length : Int) := by omega
              have hj0 : (0 : Int) ≤ (j : Int) := by omega
              have HJ := Go.Lib.hid hlt
              obtain ⟨ad5, e_, p0⟩ := Kd.at_int (Kd.C_below HCA.out hfs.out.bl) (j : Int) hj0 hltj
              cases e_
              rw [rd_nat l j hlt, Int.toNat_natCast] at p0
              have HUP := Go.Lib.hid (addC_up f l j hlt)
              have HZI := Go.Lib.hid (HLI.out _ (List.getElem_mem hlt))
              have hab := addC_bound HBF.out (l := l.take j) (by rw [List.length_take]; have := HLL.out; omega) (l[j]'hlt)
              generalize l[j]'hlt = z at p0 HUP HZI hab
              have hv0 := hab.1
              have hv1 : addC f (l.take j) z ≤ 70000 := by have h1 := hab.2; have h2 := HN.out; omega
              have HWF := Go.Lib.hid (show (Lit.int .i64 (addC f (l.take j) z + 1)).wf = true from wf64 (by omega) (by omega))
              clear hlt hab
              go_wp2_with (first | (at_lookup; refine wp_get _ rfl _ _ rfl mb _ rfl hfs.out.m z rfl (idz_wf HZI.out) ?_) | (at_mapUpdate; refine wp_set _ rfl _ _ _ rfl mb _ rfl hfs.out.m z _ rfl HZI.out rfl HWF.out ?_; intro w5 hs5 hg5; have HF5 := Go.Lib.hid ((hfs.out.setm HMO.out HM.out hs5 hg5).congr HUP.out (fun _ => Iff.rfl)); clear hs5 hg5) | fail)
              go_roundg (gk - 1)
              case measure => have := hj.out; have := HJ.out; omega
              case rel => exact ⟨j + 1, Go.Lib.hid (by have := hj.out; have := HJ.out; omega), by go_num, HF5⟩
            · have hd : decide ((j : Int) < (l.length : Int)) = false := decide_eq_false (by omega)
              have hd2 : decide (j < l.length) = false := decide_eq_false hlt
              have HFA := Go.Lib.hid (show Fs w0 wi mb ob (addC f l) (fun z => (S z ∨ (op = 0 ∧ z = n ∧ f z = 0)) ∨ (FK t i k z ∧ f z = 0)) by have h := hfs.out; rw [List.take_of_length_le (by omega)] at h; exact h)
              have HRC := Go.Lib.hid (HIH.out c (by have := HCI.out; have := HIM.out; omega) (by have := HCI.out; have := HI.out; omega) (by have := HCI.out; have := HIN.out; omega) wi _ _ HFA.out (fun z => by
                have h1 := addC_bound HBF.out (l := l) (by have := HLL.out; omega) z
                have h2 := HCI.out
                have h3 := HI.out
                exact ⟨h1.1, by omega⟩))
              clear hlt hfs hj
              go_wp2_with fail
              refine HRC.out.mono ?_
              rintro e w7 ⟨rfl, hf7⟩
              have HF7 := Go.Lib.hid (hf7.congr (T := fun z => (S z ∨ (op = 0 ∧ z = n ∧ f z = 0)) ∨ (FK t i (k + 1) z ∧ f z = 0)) (fun z => show addC f l z = addC f (l.drop 0) z by rw [List.drop_zero]) (fun z => by
                have h1 := addC_zero (fun z => (HBF.out z).1) l z
                have h2 := HFKS.out z
                constructor
                · rintro (h | ⟨h3, h4⟩)
                  · rcases h with h | ⟨h, h5⟩
                    · exact Or.inl h
                    · exact Or.inr ⟨h2.2 (Or.inl h), h5⟩
                  · have h5 := h1.1 h4
                    exact Or.inr ⟨h2.2 (Or.inr ⟨h5.1, h3⟩), h5.2⟩
                · rintro (h | ⟨h3, h4⟩)
                  · exact Or.inl (Or.inl h)
                  · rcases h2.1 h3 with h | ⟨h, h5⟩
                    · exact Or.inl (Or.inr ⟨h, h4⟩)
                    · exact Or.inr ⟨h5, h1.2 ⟨h, h4⟩⟩))
              clear hf7 HRC HFA
              go_wp2_with fail
              go_loopg [63] l.length (fun g_ v63 w' => ∃ j : Nat, Hid (j + g_ = l.length) ∧ v63 = .int .i64 j ∧ Hid (Fs w0 w' mb ob (addC f (l.drop j)) (fun z => (S z ∨ (op = 0 ∧ z = n ∧ f z = 0)) ∨ (FK t i (k + 1) z ∧ f z = 0))))
              case atStart => exact ⟨0, Go.Lib.hid (by omega), rfl, HF7⟩
              case round =>
                clear HF7
                obtain ⟨j, hj, rfl, hfs⟩ := hrel
                obtain ⟨wi, hwi⟩ : ∃ wi : World, wi = wr := ⟨_, rfl⟩
                subst hwi
                by_cases hlt : j < l.length
                · have hltj : (j : Int) < (l.length : Int) := by omega
                  have hj0 : (0 : Int) ≤ (j : Int) := by omega
                  have HJ := Go.Lib.hid hlt
                  obtain ⟨ad5, e_, p0⟩ := Kd.at_int (Kd.C_below HCA.out hfs.out.bl) (j : Int) hj0 hltj
                  cases e_
                  rw [rd_nat l j hlt, Int.toNat_natCast] at p0
                  have HUP := Go.Lib.hid (addC_down f l j hlt)
                  have HZI := Go.Lib.hid (HLI.out _ (List.getElem_mem hlt))
                  have hab := addC_bound HBF.out (l := l.drop j) (by rw [List.length_drop]; have := HLL.out; omega) (l[j]'hlt)
                  generalize l[j]'hlt = z at p0 HUP HZI hab
                  have hv0 := hab.1
                  have hv1 : addC f (l.drop j) z ≤ 70000 := by have h1 := hab.2; have h2 := HN.out; omega
                  have HWF := Go.Lib.hid (show (Lit.int .i64 (addC f (l.drop j) z - 1)).wf = true from wf64 (by omega) (by omega))
                  clear hlt hab
                  go_wp2_with (first | (at_lookup; refine wp_get _ rfl _ _ rfl mb _ rfl hfs.out.m z rfl (idz_wf HZI.out) ?_) | (at_mapUpdate; refine wp_set _ rfl _ _ _ rfl mb _ rfl hfs.out.m z _ rfl HZI.out rfl HWF.out ?_; intro w5 hs5 hg5; have HF5 := Go.Lib.hid ((hfs.out.setm HMO.out HM.out hs5 hg5).congr HUP.out (fun _ => Iff.rfl)); clear hs5 hg5) | fail)
                  go_roundg (gk - 1)
                  case measure => have := hj.out; have := HJ.out; omega
                  case rel => exact ⟨j + 1, Go.Lib.hid (by have := hj.out; have := HJ.out; omega), by go_num, HF5⟩
                · have hd : decide ((j : Int) < (l.length : Int)) = false := decide_eq_false (by omega)
                  have hd2 : decide (j < l.length) = false := decide_eq_false hlt
                  have HFE := Go.Lib.hid (hfs.out.congr (g := f) (fun z => by rw [List.drop_of_length_le (by omega)]; exact addC_nil f z) (fun _ => Iff.rfl))
                  clear hlt hfs hj
                  go_wp2_with fail
                  go_roundg (ga - 1)
                  case measure => have := hk.out; have := HK.out; omega
                  case rel => exact ⟨k + 1, Go.Lib.hid (by have := hk.out; have := HK.out; omega), by go_num, HFE⟩
        · have hd : decide ((k : Int) < (((x.f3.map fun k => ps k.toNat).length : Nat) : Int)) = false := decide_eq_false (by rw [List.length_map]; omega)
          have hd2 : decide (k < (x.f3.map fun k => ps k.toNat).length) = false := decide_eq_false (by rw [List.length_map]; exact hlt)
          have hd3 : decide ((k : Int) < (x.f3.length : Int)) = false := decide_eq_false (by omega)
          have hd4 : decide (k < x.f3.length) = false := decide_eq_false hlt
          have HE := Go.Lib.hid (show FrP w0 t i mb ob f S (.returned (.tuple #[])) wo from ⟨rfl, hfs.out.congr (fun _ => rfl) (fun z => by
            have h1 := HFV.out z
            rw [← HOP.out, ← HNN.out] at h1
            rw [show k = x.f3.length by have := hk.out; omega]
            constructor
            · rintro ((h | ⟨h2, h3, h4⟩) | ⟨h2, h3⟩)
              · exact Or.inl h
              · exact Or.inr ⟨h1.2 (Or.inl ⟨h2, h3⟩), h4⟩
              · exact Or.inr ⟨h1.2 (Or.inr h2), h3⟩
            · rintro (h | ⟨h2, h3⟩)
              · exact Or.inl (Or.inl h)
              · rcases h1.1 h2 with ⟨h4, h5⟩ | h4
                · exact Or.inl (Or.inr ⟨h4, h5, h3⟩)
                · exact Or.inr ⟨h4, h3⟩)⟩)
          clear hlt hfs hk
          go_wp2_with fail
          refine bodyPost_end (results_none rfl _ _ _) rfl ?_
          exact HE.out
    · have e0 : (op == 0) = false := beq_eq_false_iff_ne.2 h0
      have HF1 := Go.Lib.hid (HFS.out.congr (T := fun z => S z ∨ (op = 0 ∧ z = n ∧ f z = 0)) (fun _ => rfl) (fun z => by
        constructor
        · exact Or.inl
        · rintro (h | ⟨h, _⟩)
          · exact h
          · exact absurd h h0))
      clear h0
      go_enter Tryd.func79, Tryd.ntmps79
      go_wp2_with fail
      clear t0 t1 t3 e0
      have hk9 : (x.f3.length : Int) ≤ 4096 := by have := HKL.out; have := HI.out; have := HN.out; omega
      have hkb9 : (((x.f3.map fun k => ps k.toNat).length : Nat) : Int) ≤ 4096 := by rw [List.length_map]; omega
      go_loopg [38] x.f3.length (fun g_ v38 w' => ∃ k : Nat, Hid (k + g_ = x.f3.length) ∧ v38 = .int .i64 k ∧ Hid (Fs w0 w' mb ob f (fun z => (S z ∨ (op = 0 ∧ z = n ∧ f z = 0)) ∨ (FK t i k z ∧ f z = 0))))
      case atStart => exact ⟨0, Go.Lib.hid (by omega), rfl, Go.Lib.hid (HF1.out.congr (fun _ => rfl) (fun z => ⟨Or.inl, fun h => h.elim id (fun h => absurd h.1 FK.zero)⟩))⟩
      case round =>
        clear HF1 HFS
        obtain ⟨k, hk, rfl, hfs⟩ := hrel
        obtain ⟨wo, hwo⟩ : ∃ wo : World, wo = wr := ⟨_, rfl⟩
        subst hwo
        obtain ⟨ga, hga⟩ : ∃ ga : Nat, ga = gk := ⟨_, rfl⟩
        subst hga
        by_cases hlt : k < x.f3.length
        · have hltk : (k : Int) < (((x.f3.map fun k => ps k.toNat).length : Nat) : Int) := by rw [List.length_map]; omega
          have hltk' : decide (k < (x.f3.map fun k => ps k.toNat).length) = true := decide_eq_true (by rw [List.length_map]; exact hlt)
          have hk0 : (0 : Int) ≤ (k : Int) := by omega
          have HK := Go.Lib.hid hlt
          have hG3 := HNR.out.g3
          obtain ⟨ad, cs, e_, _, hK, hcell⟩ := Kd.C_get hG3 (0 : Nat) (k : Int) hk0 hltk
          have hK' : cs = [ptrV ((x.f3.map fun k => ps k.toNat).getD (k : Int).toNat 0)] := hK
          subst hK'
          have q0 := hcell 0 _ rfl
          have hk1 : kp.sz = 1 := rfl
          rw [hk1, Int.toNat_natCast, Nat.mul_one, Nat.add_zero, List.getD_eq_getElem?_getD, List.getElem?_map, List.getElem?_eq_getElem hlt] at q0
          cases e_
          obtain ⟨c, hc⟩ : ∃ c : Nat, x.f3[k]'hlt = (c : Int) := ⟨(x.f3[k]'hlt).toNat, by have := HKD.out _ (List.getElem_mem hlt); omega⟩
          have hcb := HKD.out _ (List.getElem_mem hlt)
          rw [hc] at hcb
          simp only [hc, Option.map_some, Option.getD_some, Int.toNat_natCast] at q0
          have HFKS := Go.Lib.hid (HFK.out k hlt c hc)
          have HCI := Go.Lib.hid (show c < i by omega)
          replace q0 := pw_cell_below hfs.out.bl q0
          have HBC := Go.Lib.hid (bound_calls x HOK.out k hlt (by omega) (ps i) _ A2 (some ad) A4 c2 c3 c4 w0 wo hfs.out.bl HNR.out)
          have HLL := Go.Lib.hid (scope_len HOK.out.fit k)
          have HLI := Go.Lib.hid (scope_ids HOK.out k)
          clear hlt hc hcb hG3 hK hcell hk1
          generalize scopeOf x k = l at HBC HLL HLI HFKS
          have hl9 : (l.length : Int) ≤ 16 := by have := HLL.out; omega
          go_wp2_with fail
          refine HBC.out.mono ?_
          rintro e w' ⟨A, cA, rfl, hCA, rfl⟩
          have HCA := Go.Lib.hid hCA
          clear hCA HBC q0
          go_wp2_with fail
          go_loopg [48] l.length (fun g_ v48 w' => ∃ j : Nat, Hid (j + g_ = l.length) ∧ v48 = .int .i64 j ∧ Hid (Fs w0 w' mb ob (addC f (l.take j)) (fun z => (S z ∨ (op = 0 ∧ z = n ∧ f z = 0)) ∨ (FK t i k z ∧ f z = 0))))
          case atStart => exact ⟨0, Go.Lib.hid (by omega), rfl, Go.Lib.hid (hfs.out.congr (fun z => (addC_nil f z).symm) (fun _ => Iff.rfl))⟩
          case round =>
            clear hfs
            obtain ⟨j, hj, rfl, hfs⟩ := hrel
            obtain ⟨wi, hwi⟩ : ∃ wi : World, wi = wr := ⟨_, rfl⟩
            subst hwi
            by_cases hlt : j < l.length
            · have hltj : (j : Int) < (l.length : Int) := by omega
              have hj0 : (0 : Int) ≤ (j : Int) := by omega
              have HJ := Go.Lib.hid hlt
              obtain ⟨ad5, e_, p0⟩ := Kd.at_int (Kd.C_below HCA.out hfs.out.bl) (j : Int) hj0 hltj
              cases e_
              rw [rd_nat l j hlt, Int.toNat_natCast] at p0
              have HUP := Go.Lib.hid (addC_up f l j hlt)
              have HZI := Go.Lib.hid (HLI.out _ (List.getElem_mem hlt))
              have hab := addC_bound HBF.out (l := l.take j) (by rw [List.length_take]; have := HLL.out; omega) (l[j]'hlt)
              generalize l[j]'hlt = z at p0 HUP HZI hab
              have hv0 := hab.1
              have hv1 : addC f (l.take j) z ≤ 70000 := by have h1 := hab.2; have h2 := HN.out; omega
              have HWF := Go.Lib.hid (show (Lit.int .i64 (addC f (l.take j) z + 1)).wf = true from wf64 (by omega) (by omega))
              clear hlt hab
              go_wp2_with (first | (at_lookup; refine wp_get _ rfl _ _ rfl mb _ rfl hfs.out.m z rfl (idz_wf HZI.out) ?_) | (at_mapUpdate; refine wp_set _ rfl _ _ _ rfl mb _ rfl hfs.out.m z _ rfl HZI.out rfl HWF.out ?_; intro w5 hs5 hg5; have HF5 := Go.Lib.hid ((hfs.out.setm HMO.out HM.out hs5 hg5).congr HUP.out (fun _ => Iff.rfl)); clear hs5 hg5) | fail)
              go_roundg (gk - 1)
              case measure => have := hj.out; have := HJ.out; omega
              case rel => exact ⟨j + 1, Go.Lib.hid (by have := hj.out; have := HJ.out; omega), by go_num, HF5⟩
            · have hd : decide ((j : Int) < (l.length : Int)) = false := decide_eq_false (by omega)
              have hd2 : decide (j < l.length) = false := decide_eq_false hlt
              have HFA := Go.Lib.hid (show Fs w0 wi mb ob (addC f l) (fun z => (S z ∨ (op = 0 ∧ z = n ∧ f z = 0)) ∨ (FK t i k z ∧ f z = 0)) by have h := hfs.out; rw [List.take_of_length_le (by omega)] at h; exact h)
              have HRC := Go.Lib.hid (HIH.out c (by have := HCI.out; have := HIM.out; omega) (by have := HCI.out; have := HI.out; omega) (by have := HCI.out; have := HIN.out; omega) wi _ _ HFA.out (fun z => by
                have h1 := addC_bound HBF.out (l := l) (by have := HLL.out; omega) z
                have h2 := HCI.out
                have h3 := HI.out
                exact ⟨h1.1, by omega⟩))
              clear hlt hfs hj
              go_wp2_with fail
              refine HRC.out.mono ?_
              rintro e w7 ⟨rfl, hf7⟩
              have HF7 := Go.Lib.hid (hf7.congr (T := fun z => (S z ∨ (op = 0 ∧ z = n ∧ f z = 0)) ∨ (FK t i (k + 1) z ∧ f z = 0)) (fun z => show addC f l z = addC f (l.drop 0) z by rw [List.drop_zero]) (fun z => by
                have h1 := addC_zero (fun z => (HBF.out z).1) l z
                have h2 := HFKS.out z
                constructor
                · rintro (h | ⟨h3, h4⟩)
                  · rcases h with h | ⟨h, h5⟩
                    · exact Or.inl h
                    · exact Or.inr ⟨h2.2 (Or.inl h), h5⟩
                  · have h5 := h1.1 h4
                    exact Or.inr ⟨h2.2 (Or.inr ⟨h5.1, h3⟩), h5.2⟩
                · rintro (h | ⟨h3, h4⟩)
                  · exact Or.inl (Or.inl h)
                  · rcases h2.1 h3 with h | ⟨h, h5⟩
                    · exact Or.inl (Or.inr ⟨h, h4⟩)
                    · exact Or.inr ⟨h5, h1.2 ⟨h, h4⟩⟩))
              clear hf7 HRC HFA
              go_wp2_with fail
              go_loopg [63] l.length (fun g_ v63 w' => ∃ j : Nat, Hid (j + g_ = l.length) ∧ v63 = .int .i64 j ∧ Hid (Fs w0 w' mb ob (addC f (l.drop j)) (fun z => (S z ∨ (op = 0 ∧ z = n ∧ f z = 0)) ∨ (FK t i (k + 1) z ∧ f z = 0))))
              case atStart => exact ⟨0, Go.Lib.hid (by omega), rfl, HF7⟩
              case round =>
                clear HF7
                obtain ⟨j, hj, rfl, hfs⟩ := hrel
                obtain ⟨wi, hwi⟩ : ∃ wi : World, wi = wr := ⟨_, rfl⟩
                subst hwi
                by_cases hlt : j < l.length
                · have hltj : (j : Int) < (l.length : Int) := by omega
                  have hj0 : (0 : Int) ≤ (j : Int) := by omega
                  have HJ := Go.Lib.hid hlt
                  obtain ⟨ad5, e_, p0⟩ := Kd.at_int (Kd.C_below HCA.out hfs.out.bl) (j : Int) hj0 hltj
                  cases e_
                  rw [rd_nat l j hlt, Int.toNat_natCast] at p0
                  have HUP := Go.Lib.hid (addC_down f l j hlt)
                  have HZI := Go.Lib.hid (HLI.out _ (List.getElem_mem hlt))
                  have hab := addC_bound HBF.out (l := l.drop j) (by rw [List.length_drop]; have := HLL.out; omega) (l[j]'hlt)
                  generalize l[j]'hlt = z at p0 HUP HZI hab
                  have hv0 := hab.1
                  have hv1 : addC f (l.drop j) z ≤ 70000 := by have h1 := hab.2; have h2 := HN.out; omega
                  have HWF := Go.Lib.hid (show (Lit.int .i64 (addC f (l.drop j) z - 1)).wf = true from wf64 (by omega) (by omega))
                  clear hlt hab
                  go_wp2_with (first | (at_lookup; refine wp_get _ rfl _ _ rfl mb _ rfl hfs.out.m z rfl (idz_wf HZI.out) ?_) | (at_mapUpdate; refine wp_set _ rfl _ _ _ rfl mb _ rfl hfs.out.m z _ rfl HZI.out rfl HWF.out ?_; intro w5 hs5 hg5; have HF5 := Go.Lib.hid ((hfs.out.setm HMO.out HM.out hs5 hg5).congr HUP.out (fun _ => Iff.rfl)); clear hs5 hg5) | fail)
                  go_roundg (gk - 1)
                  case measure => have := hj.out; have := HJ.out; omega
                  case rel => exact ⟨j + 1, Go.Lib.hid (by have := hj.out; have := HJ.out; omega), by go_num, HF5⟩
                · have hd : decide ((j : Int) < (l.length : Int)) = false := decide_eq_false (by omega)
                  have hd2 : decide (j < l.length) = false := decide_eq_false hlt
                  have HFE := Go.Lib.hid (hfs.out.congr (g := f) (fun z => by rw [List.drop_of_length_le (by omega)]; exact addC_nil f z) (fun _ => Iff.rfl))
                  clear hlt hfs hj
                  go_wp2_with fail
                  go_roundg (ga - 1)
                  case measure => have := hk.out; have := HK.out; omega
                  case rel => exact ⟨k + 1, Go.Lib.hid (by have := hk.out; have := HK.out; omega), by go_num, HFE⟩
        · have hd : decide ((k : Int) < (((x.f3.map fun k => ps k.toNat).length : Nat) : Int)) = false := decide_eq_false (by rw [List.length_map]; omega)
          have hd2 : decide (k < (x.f3.map fun k => ps k.toNat).length) = false := decide_eq_false (by rw [List.length_map]; exact hlt)
          have hd3 : decide ((k : Int) < (x.f3.length : Int)) = false := decide_eq_false (by omega)
          have hd4 : decide (k < x.f3.length) = false := decide_eq_false hlt
          have HE := Go.Lib.hid (show FrP w0 t i mb ob f S (.returned (.tuple #[])) wo from ⟨rfl, hfs.out.congr (fun _ => rfl) (fun z => by
            have h1 := HFV.out z
            rw [← HOP.out, ← HNN.out] at h1
            rw [show k = x.f3.length by have := hk.out; omega]
            constructor
            · rintro ((h | ⟨h2, h3, h4⟩) | ⟨h2, h3⟩)
              · exact Or.inl h
              · exact Or.inr ⟨h1.2 (Or.inl ⟨h2, h3⟩), h4⟩
              · exact Or.inr ⟨h1.2 (Or.inr h2), h3⟩
            · rintro (h | ⟨h2, h3⟩)
              · exact Or.inl (Or.inl h)
              · rcases h1.1 h2 with ⟨h4, h5⟩ | h4
                · exact Or.inl (Or.inr ⟨h4, h5, h3⟩)
                · exact Or.inr ⟨h4, h3⟩)⟩)
          clear hlt hfs hk
          go_wp2_with fail
          refine bodyPost_end (results_none rfl _ _ _) rfl ?_
          exact HE.out
end Go.Proofs.YtjhinklijopobaaDoor.Co
namespace Go.Proofs.YtjhinklijopobaaDoor.Co
open Go.RowKit Go.Lib Go.Sort Go.Proofs.YtjhinklijopobaaDoor.PCoreChecks Go.Proofs.YtjhinklijopobaaDoorW.PrintWords Go.Proofs.YtjhinklijopobaaDoorW.PrintLast Go.Proofs.YtjhinklijopobaaDoorW.PrintMore
open Go.Maps (Keyed has size IsMap Tidy)
set_option linter.unusedVariables false
set_option linter.unusedSimpArgs false

/-! ### slices.Sort at a row of numbers of the call's own -/
theorem below_grow {B : Nat} {w0 w : World} (h : Below B w0 w) (os : Array Obj) (hB : B ≤ w.heap.size) : Below B w0 (grow w os) :=
  h.trans ⟨rfl, rfl, rfl, by simp [grow], fun k hk => by simp [grow, Array.getElem?_append, show k < w.heap.size by omega]⟩
theorem own_grow {w : World} {base e n : Nat} {v : Value} {xs : List Value} (h : w.ownsRow base e 1 v n xs) (os : Array Obj) : (grow w os).ownsRow base e 1 v n xs :=
  pw_own_below h (below_grow (Below.refl _ _) os (Nat.le_refl _))
def leI : Int → Int → Bool := fun x y => decide (x ≤ y)
theorem sortI_own {B : Nat} {W : World} {A : Option Addr} {c : Nat} {l : List Int} (h : W.ownsRow B 3 1 (.slice A l.length c) l.length (encs (Value.int .i64) l)) (hn : l.length < 4611686018427387904) (hB : B ≤ W.heap.size) :
    Calls Tryd.prog 80 #[.slice A l.length c] W fun e w' => e = .returned (.tuple #[]) ∧ w'.ownsRow B 3 1 (.slice A l.length c) l.length (encs (Value.int .i64) (l.mergeSort leI)) ∧ Below B W w' := by
  by_cases hv : Value.slice A l.length c = .slice none 0 0
  · injection hv with h1 h2 h3
    subst h1 h3
    obtain rfl := List.length_eq_zero_iff.1 h2
    refine (Tryd.slices_Sort_int_none none 0 W).mono ?_
    rintro e w' ⟨rfl, rfl⟩
    exact ⟨rfl, by simpa using h, Below.refl _ _⟩
  · obtain ⟨g, cap, e0, hbg, hgl, hcap, hcm, hlen, hH⟩ := Lib.holds_of_ownsRow h hv
    injection e0 with e1 e2 e3
    subst e1 e3
    refine (Tryd.slices_Sort_int g 0 c l W hH hgl hn).mono ?_
    rintro e w' ⟨rfl, n, os, rfl⟩
    have hl : (l.mergeSort fun x y => decide (x ≤ y)).length = l.length := by simp
    refine ⟨rfl, ?_, below_grow (below_putRow (Below.refl _ _) hbg) os (by simpa [putRow, mapBlock, Sort.ahead] using hB)⟩
    have h2 := own_grow (ownsRow_putRow (q := n) h hl (Nat.le_refl _)) os
    rw [List.take_of_length_le (by omega)] at h2
    exact h2

/-! ### core.FreeOf -/
def FoP (w : World) (S : Int → Prop) (e : Ending) (w' : World) : Prop := ∃ (l : List Int) (A : Option Addr) (c : Nat), e = .returned (.slice A l.length c) ∧ l.Pairwise (· < ·) ∧ (∀ z, z ∈ l ↔ S z) ∧ w'.ownsRow w.heap.size 3 1 (.slice A l.length c) l.length (encs (Value.int .i64) l) ∧ Below w.heap.size w w'
theorem FoP.mk {w w' : World} {S : Int → Prop} {l0 : List Int} {A : Option Addr} {c : Nat} (hn : l0.Nodup) (hs : ∀ z, z ∈ l0 ↔ S z) (ho : w'.ownsRow w.heap.size 3 1 (.slice A l0.length c) l0.length (encs (Value.int .i64) (l0.mergeSort leI))) (hb : Below w.heap.size w w') : FoP w S (.returned (.slice A l0.length c)) w' := by
  have hp : (l0.mergeSort leI).Perm l0 := List.mergeSort_perm _ _
  have hl : (l0.mergeSort leI).length = l0.length := by simp
  refine ⟨l0.mergeSort leI, A, c, by rw [hl], ?_, fun z => (hp.mem_iff).trans (hs z), by rw [hl]; exact ho, hb⟩
  have h1 : (l0.mergeSort leI).Pairwise (fun a b => leI a b = true) := List.pairwise_mergeSort (fun a b c h1 h2 => by unfold leI at *; simp at *; omega) (fun a b => by unfold leI; simp; omega) l0
  have h2 : (l0.mergeSort leI).Nodup := hp.nodup_iff.2 hn
  have h3 := h1.and (List.nodup_iff_pairwise_ne.1 h2)
  exact h3.imp (fun {a b} h => by
    have h4 := h.1
    have h5 := h.2
    unfold leI at h4
    simp at h4
    omega)
/-- The names that are gathered. -/
structure Rg (w : World) (ob r : Nat) (D : DataW Unit) (left : Lit → Bool) (cnt : Nat) (l : List Int) (v : Value) (W : World) : Prop where
  bl : Below w.heap.size w W
  rl : w.heap.size ≤ r
  rg : W.ranges Tryd.prog 3 unitElem ob r 1048576 D left cnt
  own : Kd.R (Kd.int .i64) 3 W w.heap.size (fun _ => True) v l
  nd : l.Nodup
  mem : ∀ z : Int, z ∈ l ↔ has D (.int .i64 z) = true ∧ left (.int .i64 z) = false
  len : l.length + cnt ≤ size D
theorem ranges_lit {W : World} {ob r n cnt : Nat} {D : DataW Unit} {left : Lit → Bool} (h : W.ranges Tryd.prog 3 unitElem ob r n D left cnt) {k : Nat} {cells : Array Value} {t : Nat} (hk : W.heap[k]? = some (.cells cells t (0, 0))) : some ob ≠ some k ∧ some r ≠ some k := by
  obtain ⟨es, clock, since, seen, c0, hb, _, _, _, hr, _⟩ := h
  constructor
  · intro e; cases e; rw [hb] at hk; cases hk
  · intro e; cases e; rw [hr] at hk; cases hk
theorem ranges_app {w W W' : World} {ob r : Nat} {D : DataW Unit} {left : Lit → Bool} {cnt : Nat} {l : List Int} {v : Value} (ho : Kd.R (Kd.int .i64) 3 W w.heap.size (fun _ => True) v l) (h : W.ranges Tryd.prog 3 unitElem ob r 1048576 D left cnt) (hg : W.grownBy W' v.ownBlock) : W'.ranges Tryd.prog 3 unitElem ob r 1048576 D left cnt := by
  cases e : v.ownBlock with
  | none => rw [e] at hg; exact h.kept hg (by simp) (by simp)
  | some k =>
    obtain ⟨cells, hc⟩ := Kd.R_typed ho k e
    obtain ⟨h1, h2⟩ := ranges_lit h hc
    rw [e] at hg
    exact h.kept hg h1 h2
theorem strike_int (left : Lit → Bool) (x z : Int) : ((left (.int .i64 z) && !(Lit.int .i64 z).sameKey (.int .i64 x)) = false) ↔ (left (.int .i64 z) = false ∨ z = x) := by
  by_cases e : z = x
  · subst e
    have : (Lit.int .i64 z).sameKey (.int .i64 z) = true := by simp [Lit.sameKey]
    simp [this]
  · have : (Lit.int .i64 z).sameKey (.int .i64 x) = false := Maps.sameKey_ne (fun h => e (lit_inj h))
    simp [this, e]
theorem Rg.step {w W W' : World} {ob r : Nat} {D : DataW Unit} {left : Lit → Bool} {cnt cnt' : Nat} {l : List Int} {v v' : Value} {x : Int} (h : Rg w ob r D left cnt l v W) (hl : left (.int .i64 x) = true) (hD : has D (.int .i64 x) = true) (hc : cnt' < cnt)
    (hrg : W'.ranges Tryd.prog 3 unitElem ob r 1048576 D (fun z => left z && !z.sameKey (.int .i64 x)) cnt') (hr : Kd.R (Kd.int .i64) 3 W' w.heap.size (fun _ => True) v' (l ++ [x])) (hb : Below w.heap.size w W') :
    Rg w ob r D (fun z => left z && !z.sameKey (.int .i64 x)) cnt' (l ++ [x]) v' W' := by
  refine ⟨hb, h.rl, hrg, hr, nodup_snoc h.nd (fun hx => ?_), fun z => ?_, by rw [List.length_append, List.length_singleton]; have := h.len; omega⟩
  · have := ((h.mem x).1 hx).2
    rw [hl] at this; cases this
  · rw [List.mem_append, List.mem_singleton, strike_int left x z, h.mem z]
    constructor
    · rintro (⟨h1, h2⟩ | rfl)
      · exact ⟨h1, Or.inl h2⟩
      · exact ⟨hD, Or.inr rfl⟩
    · rintro ⟨h1, h2 | rfl⟩
      · exact Or.inl ⟨h1, h2⟩
      · exact Or.inr rfl
theorem Rg.next {w W W1 : World} {ob r : Nat} {D : DataW Unit} {left : Lit → Bool} {cnt : Nat} {l : List Int} {v : Value} (h : Rg w ob r D left cnt l v W) (hg : W.grownBy W1 (some r)) : Kd.R (Kd.int .i64) 3 W1 w.heap.size (fun _ => True) v l ∧ Below w.heap.size w W1 := by
  refine ⟨Kd.R_mono (Kd.R_grown (Kd.R_bound h.own) hg (fun k hk e => ?_)) (fun _ hk => hk.1), h.bl.grown hg h.bl.size (fun k hk => by cases hk; exact h.rl)⟩
  obtain ⟨_, _, _, q, _, cells, hc⟩ := hk
  exact (ranges_lit h.rg hc).2 e.symm

set_option maxHeartbeats 8000000 in
set_option maxRecDepth 100000 in
theorem freeOf_calls (t : List S28) (ps : Nat → Nat) (w : World) (N : Nat) (hT : Ft w t N ps) (htr : treeB t = true) (hn : t.length ≤ 4096) (hok : ∀ x ∈ t, Ok x) (i : Nat) (hi : i < t.length) (hiN : i < N) :
    Calls Tryd.prog 48 #[ptrV (ps i)] w (FoP w (fun z => Fv t i z)) := by
  have hmm := @run_makeMap Tryd.prog
  have HF0 := Go.Lib.hid (show Fs w ((w.alloc (.map #[] 0)).alloc (.map #[] 0)) (w.heap.size + 1) w.heap.size (fun _ => 0) (fun _ => False) from ⟨below_alloc (below_alloc (Below.refl _ _) _) _, by have h := Mi.made (w.alloc (.map #[] 0)); rwa [show (w.alloc (.map #[] 0)).heap.size = w.heap.size + 1 by simp] at h, (So.made w).below (below_alloc (Below.refl _ _) _)⟩)
  have HFC := Go.Lib.hid (free_calls w t ps N hT htr hn hok (w.heap.size + 1) w.heap.size (by omega) (by omega) (Nat.le_refl _) (i + 1) i (by omega) hi hiN _ _ _ HF0.out (fun z => ⟨Int.le_refl 0, by omega⟩))
  clear hT htr hn hok hi hiN
  go_enter Tryd.func48, Tryd.ntmps48
  go_wp2_with fail
  refine HFC.out.mono ?_
  rintro e W2 ⟨rfl, hfs⟩
  obtain ⟨D, hD1, hD2, hD3⟩ := hfs.s
  have HB2 := Go.Lib.hid hfs.bl
  have HD1 := Go.Lib.hid hD1
  have HDS := Go.Lib.hid (show ∀ z, has D (.int .i64 z) = true ↔ Fv t i z from fun z => (hD2 z).trans ⟨fun h => h.elim (fun h => h.elim) (fun h => h.1), fun h => Or.inr ⟨h, rfl⟩⟩)
  clear HFC HF0 hfs hD1 hD2 hD3 hmm
  go_wp2_with (first | (at_range; refine wpList_range_own _ rfl _ 114 rfl 3 134 kd3 Tryd.underlying114 unitElem w.heap.size 1048576 D rfl HD1.out ?_; intro W3 hrg0 hg0 hs0; have HR0 := Go.Lib.hid (show Rg w w.heap.size W2.heap.size D (has D) (size D) [] (.slice none 0 0) W3 from ⟨HB2.out.grown hg0 HB2.out.size (fun k hk => by cases hk), HB2.out.size, hrg0, Kd.R_nil _ _ _ _ _, by simp, fun z => by simp, by simp⟩); clear hrg0 hg0 hs0) | fail)
  go_frame
  have HSZ := Go.Lib.hid HD1.out.size_le
  go_loopg [4] (size D) (fun g_ v4 w' => ∃ (l : List Int) (A : Option Addr) (c : Nat) (left : Lit → Bool) (cnt : Nat), v4 = .slice A l.length c ∧ Hid (cnt ≤ g_) ∧ Hid (Rg w w.heap.size W2.heap.size D left cnt l (.slice A l.length c) w'))
  case atStart => exact ⟨[], none, 0, _, _, rfl, Go.Lib.hid (Nat.le_refl _), HR0⟩
  case round =>
    clear HR0
    obtain ⟨l, A, c, left, cnt, rfl, hcn, hrg⟩ := hrel
    obtain ⟨wo, hwo⟩ : ∃ wo : World, wo = wr := ⟨_, rfl⟩
    subst hwo
    have HLN := Go.Lib.hid (show l.length ≤ 1048576 by have := hrg.out.len; have := HSZ.out; omega)
    go_wp2_with (first | (at_next; refine wpList_next_ranges _ rfl _ rfl 3 kd3 unitElem (Value.int .i64) (fun _ : Unit => .agg #[]) (fun key kl hkey => by obtain ⟨x, rfl, _⟩ := Maps.keyOf_int_inv Tryd.underlying3 hkey; exact ⟨x, rfl⟩) (fun v y hv => ⟨(), (unitElem_inv hv).1⟩) w.heap.size W2.heap.size 1048576 D left cnt rfl hrg.out.rg ?_ ?_) | fail)
    · intro hc0 hl0
      have HP := Go.Lib.hid (show ∀ z, z ∈ l ↔ Fv t i z from fun z => (hrg.out.mem z).trans (by rw [hl0 (.int .i64 z)]; simp [HDS.out z]))
      have HO := Go.Lib.hid (Kd.own_of_R hrg.out.own)
      have HND := Go.Lib.hid hrg.out.nd
      have HBL := Go.Lib.hid hrg.out.bl
      clear hc0 hl0 hrg hcn
      have HSO := Go.Lib.hid (sortI_own HO.out (by have := HLN.out; omega) HBL.out.size)
      go_wp2_with fail
      refine HSO.out.mono ?_
      rintro e w5 ⟨rfl, ho5, hb5⟩
      have HV := Go.Lib.hid (FoP.mk (w := w) (w' := w5) HND.out HP.out ho5 (HBL.out.trans hb5))
      clear ho5 hb5 HSO
      go_wp2_with fail
      go_ret
      exact HV.out
    · intro x kl yd yp w4 cnt' hkey hlk hv hat hrg4 hlt hgr hsz hen
      obtain ⟨x', ex, rfl, hwf⟩ := Maps.keyOf_int_inv Tryd.underlying3 hkey
      injection ex with _ ex
      subst ex
      have HHD := Go.Lib.hid (Maps.has_true_of_atKey hat)
      have HLK := Go.Lib.hid hlk
      have HLT := Go.Lib.hid hlt
      have HR4 := Go.Lib.hid (hrg.out.next hgr)
      have HRG4 := Go.Lib.hid hrg4
      clear hkey hlk hv hat hrg4 hlt hgr hsz hwf
      go_wp2_with (first | (at_builtin; refine Kd.R_append (Kd.int .i64) (w0 := w) (W := w4) w.heap.size rfl (.tmp 17) (.tmp 19) 25 3 (.int .i64 0) 8 rfl Tryd.underlying25 info3 rfl (by decide) (by decide) (.slice A l.length c) l x [.int .i64 x] (fun _ => True) (fun _ => False) rfl (by simp [Act.eval, Act.put]) rfl (fun _ h => h.elim) (fun _ _ => trivial) HR4.out.1 HR4.out.2 HR4.out.2.size (by have := HLN.out; omega) ?_; intro v9 w9 hr9 hb9 hg9 hat9; obtain ⟨A9, c9, rfl⟩ := Kd.R_slice hr9; have HN9 := Go.Lib.hid (hrg.out.step HLK.out HHD.out HLT.out (ranges_app HR4.out.1 HRG4.out hg9) hr9 hb9); clear hr9 hb9 hg9 hat9) | fail)
      go_roundg (gk - 1)
      case measure => have := hcn.out; have := HLT.out; omega
      case rel => exact ⟨l ++ [x], A9, c9, _, cnt', (by first | rfl | simp), Go.Lib.hid (by have := hcn.out; have := HLT.out; omega), HN9⟩
end Go.Proofs.YtjhinklijopobaaDoor.Co
namespace Go.Proofs.YtjhinklijopobaaDoor.Co
open Go.RowKit Go.Proofs.YtjhinklijopobaaDoor.PCoreChecks Go.Proofs.YtjhinklijopobaaDoorW.PrintWords Go.Proofs.YtjhinklijopobaaDoorW.PrintLast Go.Proofs.YtjhinklijopobaaDoorW.PrintMore
set_option linter.unusedVariables false
set_option linter.unusedSimpArgs false

/-! ### core.Grow -/
/-- What stands at the head of a round. -/
structure Gr (w W : World) (t : List S28) (i : Nat) (ps lo : Nat → Nat) : Prop where
  b : Below w.heap.size w W
  fo : Fo (w.heap.size + 1) W t i ps lo
  na : NA W w.heap.size t.length ps i
theorem Gr.start (w : World) (t : List S28) : Gr w (w.alloc (.cells (madeCells #[.pointer none] t.length) 66)) t 0 (fun _ => 0) (fun _ => w.heap.size + 1) :=
  ⟨below_alloc (Below.refl _ _) _, ⟨Nat.le_refl _, by simp, fun i _ h => by omega⟩, NA.made w t.length _⟩
def GroP (t : List S28) (w : World) (e : Ending) (w' : World) : Prop := ∃ ps lo, e = .returned (ptrV (ps (t.length - 1))) ∧ Fo (w.heap.size + 1) w' t t.length ps lo ∧ Below w.heap.size w w'
theorem GroP.mk {t : List S28} {w w' : World} {ps lo : Nat → Nat} (h : Gr w w' t t.length ps lo) : GroP t w (.returned (ptrV (ps (t.length - 1)))) w' := ⟨ps, lo, rfl, h.fo, h.b⟩
theorem NA.cell0 {W : World} {g n : Nat} {ps : Nat → Nat} {i : Nat} (h : NA W g n ps i) (hi : i < n) : W.cell? ⟨g, i, none⟩ = some (.pointer none) := by
  rw [blk_cell h]
  simp [hi]
theorem Gr.next {w wo w1 W : World} {t : List S28} {i : Nat} {ps lo : Nat → Nat} {b : Nat} {x : S28} {v2 v3 v4 : Value} {kb : List Nat} (h : Gr w wo t i ps lo) (hb1 : Below wo.heap.size wo w1) (hbu : Bu w1 b x.f0 x.f1 v2 v3 v4 x.f2 kb x.f4 W) (hna : NA W w.heap.size t.length ps i) (hi : i < t.length)
    (hnx : ∀ W W' b, Gn W (lo i) W.heap.size b x kb → Below wo.heap.size wo W → W'.heap.size = W.heap.size → (∀ k, w.heap.size + 1 ≤ k → W'.heap[k]? = W.heap[k]?) → Fo (w.heap.size + 1) W' t (i + 1) (fset ps i b) (fset lo (i + 1) W'.heap.size)) :
    Gr w (W.setCell ⟨w.heap.size, i, none⟩ (ptrV b)) t (i + 1) (fset ps i b) (fset lo (i + 1) (W.setCell ⟨w.heap.size, i, none⟩ (ptrV b)).heap.size) := by
  have hbw : Below wo.heap.size wo W := hb1.trans (hbu.bl.mono hb1.size)
  refine ⟨below_set (below_step h.b hbw) (Nat.le_refl _), ?_, hna.put hi b⟩
  exact hnx W _ b (hbu.done (Nat.le_trans h.fo.hi hb1.size)) hbw (by simp [World.setCell]) (fun k hk => Below.heap_setCell W ⟨w.heap.size, i, none⟩ _ k (by simp; omega))
/-- What stays while the binders are copied. -/
def Rc (g : Nat) (x : S28) (A2 : Option Addr) (c2 : Nat) (w1 W : World) : Prop :=
  W.cell? ⟨g, 0, none⟩ = some (.int .i64 x.f0) ∧ W.cell? ⟨g, 1, none⟩ = some (.int .i64 x.f1) ∧ W.cell? ⟨g, 2, none⟩ = some (.slice A2 x.f2.length c2) ∧ Hid (Below w1.heap.size w1 W)
theorem Rc.below {g : Nat} {x : S28} {A2 : Option Addr} {c2 : Nat} {w1 W W' : World} (h : Rc g x A2 c2 w1 W) (hb : Below W.heap.size W W') : Rc g x A2 c2 w1 W' := ⟨pw_cell_below hb h.1, pw_cell_below hb h.2.1, pw_cell_below hb h.2.2.1, Go.Lib.hid (below_step h.2.2.2.out hb)⟩
theorem clone_arm {g : Nat} {x : S28} {A2 : Option Addr} {c2 : Nat} {w1 W : World} (hC : Hid (Kd.C (Kd.int .i64) w1 A2 x.f2.length x.f2)) (hl : Hid (x.f2.length ≤ 17592186044416)) (h : Rc g x A2 c2 w1 W) :
    Calls Tryd.prog 83 #[.slice A2 x.f2.length c2] W fun e wn => ∃ A5 c5, e = .returned (.slice A5 x.f2.length c5) ∧ Kd.R (Kd.int .i64) 3 wn w1.heap.size (fun _ => True) (.slice A5 x.f2.length c5) x.f2 ∧ Rc g x A2 c2 w1 wn :=
  (clone_calls x.f2 A2 c2 W (Kd.C_below hC.out h.2.2.2.out) hl.out).mono fun e wn h2 => by
    obtain ⟨v, rfl, hr, hb⟩ := h2
    obtain ⟨A5, c5, rfl⟩ := Kd.R_slice hr
    exact ⟨A5, c5, rfl, Kd.R_lower hr h.2.2.2.out.size, h.below hb⟩

theorem Bu.start {w1 wn : World} {op n : Int} {A5 : Option Addr} {c5 : Nat} {bs : List Int} (hb : Below w1.heap.size w1 wn) (hr : Kd.R (Kd.int .i64) 3 wn w1.heap.size (fun _ => True) (.slice A5 bs.length c5) bs) :
    Bu w1 wn.heap.size op n (.slice A5 bs.length c5) (.slice none 0 0) (.slice none 0 0) bs [] [] (wn.alloc (.cells #[.int .i64 op, .int .i64 n, .slice A5 bs.length c5, .slice none 0 0, .slice none 0 0] 95)) :=
  ⟨below_step hb (below_alloc (Below.refl _ _) _), blk_new _ _, hb.size, Kd.R_alloc hr _, Kd.R_nil _ _ _ _ _, Kd.R_nil _ _ _ _ _⟩
theorem Bu.cells {w1 W : World} {b : Nat} {op n : Int} {v2 v3 v4 : Value} {bs : List Int} {kb : List Nat} {al : List S86} (h : Bu w1 b op n v2 v3 v4 bs kb al W) : (W.cell? ⟨b, 3, none⟩ = some v3 ∧ W.frozen? ⟨b, 3, none⟩ = false) ∧ (W.cell? ⟨b, 4, none⟩ = some v4 ∧ W.frozen? ⟨b, 4, none⟩ = false) :=
  ⟨⟨h.tb.cells.2.2.2.1, blk_frozen h.tb 3⟩, h.tb.cells.2.2.2.2, blk_frozen h.tb 4⟩
theorem Bu.old {w1 W : World} {b : Nat} {op n : Int} {v2 v3 v4 : Value} {bs : List Int} {kb : List Nat} {al : List S86} (h : Bu w1 b op n v2 v3 v4 bs kb al W) {a : Addr} {v : Value} (hc : w1.cell? a = some v) : W.cell? a = some v := pw_cell_below h.bl hc

theorem Bu.grown3 {w1 W W' : World} {b : Nat} {op n : Int} {v2 v3 v4 : Value} {bs : List Int} {kb : List Nat} {al : List S86} (h : Bu w1 b op n v2 v3 v4 bs kb al W) (hg : W.grownBy W' v3.ownBlock) : W'.cell? ⟨b, 3, none⟩ = some v3 ∧ W'.frozen? ⟨b, 3, none⟩ = false := by
  have htb : Tb W' b op n v2 v3 v4 := blk_grown h.tb hg (Kd.R_ne h.r3 h.tb (by decide))
  exact ⟨htb.cells.2.2.2.1, blk_frozen htb 3⟩
theorem Bu.grown4 {w1 W W' : World} {b : Nat} {op n : Int} {v2 v3 v4 : Value} {bs : List Int} {kb : List Nat} {al : List S86} (h : Bu w1 b op n v2 v3 v4 bs kb al W) (hg : W.grownBy W' v4.ownBlock) : W'.cell? ⟨b, 4, none⟩ = some v4 ∧ W'.frozen? ⟨b, 4, none⟩ = false := by
  have htb : Tb W' b op n v2 v3 v4 := blk_grown h.tb hg (Kd.R_ne h.r4 h.tb (by decide))
  exact ⟨htb.cells.2.2.2.2, blk_frozen htb 4⟩

set_option maxHeartbeats 16000000 in
set_option maxRecDepth 100000 in
theorem grow_calls (t : List S28) (htr : treeB t = true) (hn : t.length ≤ 4096) (hf : ∀ x ∈ t, Fit x) (A0 : Option Addr) (c0 : Nat) (w : World) (hr : Kd.C k28 w A0 t.length t) :
    Calls Tryd.prog 53 #[.slice A0 t.length c0] w (GroP t w) := by
  have HR := Go.Lib.hid hr
  have HF := Go.Lib.hid hf
  have HTR := Go.Lib.hid htr
  have ht9 : (t.length : Int) ≤ 4096 := by omega
  have HG0 := Go.Lib.hid (Gr.start w t)
  have h0 : 0 < t.length := (treeB_parts htr).1
  have hmk : ∀ W : World, (Instr.makeSlice 93 (.int .i64 (t.length : Int)) (.int .i64 (t.length : Int))).run Tryd.prog W = .ok (.slice (some ⟨W.heap.size, 0, none⟩) t.length t.length) (W.alloc (.cells (madeCells #[.pointer none] t.length) 66)) := fun W =>
    run_make_row' 93 66 (.pointer none) 8 Tryd.underlying93 info66 rfl .i64 .i64 t.length (by omega) (by omega) W
  have H0 := Go.Lib.hid h0
  clear hr hf htr hn h0
  go_enter Tryd.func53, Tryd.ntmps53
  go_wp2_with fail
  clear hmk
  go_loopg [16] t.length (fun g_ v16 w' => ∃ (i : Nat) (ps lo : Nat → Nat), Hid (i + g_ = t.length) ∧ v16 = .int .i64 i ∧ Hid (Gr w w' t i ps lo))
  case atStart => exact ⟨0, _, _, Go.Lib.hid (by omega), rfl, HG0⟩
  case round =>
    clear HG0
    obtain ⟨i, ps, lo, hi, rfl, hgr⟩ := hrel
    obtain ⟨wo, hwo⟩ : ∃ wo : World, wo = wr := ⟨_, rfl⟩
    subst hwo
    obtain ⟨ga, hga⟩ : ∃ ga : Nat, ga = gk := ⟨_, rfl⟩
    subst hga
    by_cases hlt : i < t.length
    · have hlt' : (i : Int) < (t.length : Int) := by omega
      have hi0 : (0 : Int) ≤ (i : Int) := by omega
      have HI := Go.Lib.hid hlt
      obtain ⟨ad, A2, c2, A3, c3, A4, c4, e_, p0, p1, p2, p3, p4, l2, g2, l3, g3, l4, g4⟩ := at_T28 HR.out (i : Int) hi0 hlt'
      cases e_
      rw [rdT_nat t i hlt] at p0 p1 p2 p3 p4 l2 g2 l3 g3 l4 g4
      rw [Int.toNat_natCast] at p0 p1 p2 p3 p4
      replace p0 := pw_cell_below hgr.out.b p0
      replace p1 := pw_cell_below hgr.out.b p1
      replace p2 := pw_cell_below hgr.out.b p2
      replace p3 := pw_cell_below hgr.out.b p3
      replace p4 := pw_cell_below hgr.out.b p4
      have HFT := Go.Lib.hid (HF.out _ (List.getElem_mem hlt))
      have HKD := Go.Lib.hid (fun k (hk : k ∈ (t[i]'hlt).f3) => badK_mem (rB_at (treeB_parts HTR.out).2.1 i hlt) hk)
      have HKL := Go.Lib.hid (kids_len HTR.out hlt)
      have HNX := Go.Lib.hid (fun W W' b => Fo.next (W := W) (W' := W') (b := b) hgr.out.fo hlt (treeB_parts HTR.out).2.1)
      generalize t[i]'hlt = x at p0 p1 p2 p3 p4 l2 g2 l3 g3 l4 g4 HFT HKD HKL HNX
      obtain ⟨w1, hw1⟩ : ∃ w1, w1 = wo.alloc (.cells #[.int .i64 x.f0, .int .i64 x.f1, .slice A2 x.f2.length c2, .slice A3 x.f3.length c3, .slice A4 x.f4.length c4] 28) := ⟨_, rfl⟩
      have HB1 := Go.Lib.hid (show Below wo.heap.size wo w1 by rw [hw1]; exact below_alloc (Below.refl _ _) _)
      have HX1 := Go.Lib.hid (show Bx w1 wo.heap.size x A2 c2 A3 c3 A4 c4 by rw [hw1]; exact Bx.made wo x A2 A3 A4 c2 c3 c4)
      have HG2 := Go.Lib.hid (Kd.C_below (Kd.C_below g2 hgr.out.b) HB1.out)
      have HG3 := Go.Lib.hid (Kd.C_below (Kd.C_below g3 hgr.out.b) HB1.out)
      have HG4 := Go.Lib.hid (Kd.C_below (Kd.C_below g4 hgr.out.b) HB1.out)
      have HNA := Go.Lib.hid (hgr.out.na.below HB1.out)
      have HW1 := Go.Lib.hid hw1
      clear hlt g2 g3 g4 l2 l3 l4 hw1
      go_wp2_with fail
      rw [← HW1.out]
      have HL2 := Go.Lib.hid (show x.f2.length ≤ 17592186044416 by have := HFT.out.b; omega)
      obtain ⟨x0, x1, x2, x3, x4⟩ := HX1.out.cells
      clear p0 p1 p2 p3 p4
      have HRC := Go.Lib.hid (show Rc wo.heap.size x A2 c2 w1 w1 from ⟨x0, x1, x2, Go.Lib.hid (Below.refl _ _)⟩)
      clear x0 x1 x2 x3 x4
      go_region_held3 (fun w' => w'.cell? ⟨wo.heap.size, 0, none⟩ = some (.int .i64 x.f0) ∧ w'.cell? ⟨wo.heap.size, 1, none⟩ = some (.int .i64 x.f1) ∧ w'.cell? ⟨wo.heap.size, 2, none⟩ = some (.slice A2 x.f2.length c2) ∧ Hid (Below w1.heap.size w1 w')) (first | exact hNew | exact HRC.out.below (below_drew (Below.refl _ _)) | exact hNew.below (below_alloc (Below.refl _ _) _)) (
        (go_at_call 83; refine (clone_arm HG2 HL2 (show Rc wo.heap.size x A2 c2 w1 _ from ‹_ ∧ _ ∧ _ ∧ Hid (Below w1.heap.size w1 _)›)).mono ?_; rintro e wn ⟨A5, c5, rfl, hR5, hNew⟩))
      have hbu := Bu.start (op := x.f0) (n := x.f1) hNew.2.2.2.out hR5
      generalize (wn.alloc (.cells #[.int .i64 x.f0, .int .i64 x.f1, .slice A5 x.f2.length c5, .slice none 0 0, .slice none 0 0] 95)) = W2 at hbu ⊢
      have HBU := Go.Lib.hid hbu
      have hlb : wn.heap.size = wn.heap.size := rfl
      obtain ⟨b, hb⟩ : ∃ b, b = wn.heap.size := ⟨_, rfl⟩
      rw [← hb] at hbu HBU ⊢
      clear hNew hR5 HRC hbu hlb hb
      obtain ⟨-, -, -, y3, -⟩ := HX1.out.cells
      have y3 := HBU.out.old y3
      go_wp2_with fail
      have hk9 : (x.f3.length : Int) ≤ 4096 := by have := HKL.out; have := HI.out; omega
      clear y3
      go_loopg [33] x.f3.length (fun g_ v33 w' => ∃ (j : Nat) (v3 : Value), Hid (j + g_ = x.f3.length) ∧ v33 = .int .i64 j ∧ Hid (Bu w1 b x.f0 x.f1 (.slice A5 x.f2.length c5) v3 (.slice none 0 0) x.f2 ((x.f3.take j).map fun k => ps k.toNat) [] w'))
      case atStart => exact ⟨0, _, Go.Lib.hid (by omega), rfl, HBU⟩
      case round =>
        clear HBU
        obtain ⟨j, v3, hj, rfl, hbu⟩ := hrel
        obtain ⟨wi, hwi⟩ : ∃ wi : World, wi = wr := ⟨_, rfl⟩
        subst hwi
        by_cases hlt : j < x.f3.length
        · have hltj : (j : Int) < (x.f3.length : Int) := by omega
          have hj0 : (0 : Int) ≤ (j : Int) := by omega
          have HJ := Go.Lib.hid hlt
          obtain ⟨ad3, e_, q0⟩ := Kd.at_int HG3.out (j : Int) hj0 hltj
          cases e_
          rw [rd_nat x.f3 j hlt, Int.toNat_natCast] at q0
          have HTK := Go.Lib.hid (show (x.f3.take (j + 1)).map (fun k => ps k.toNat) = (x.f3.take j).map (fun k => ps k.toNat) ++ [ps (x.f3[j]'hlt).toNat] by rw [List.take_succ_eq_append_getElem hlt, List.map_append]; rfl)
          obtain ⟨k, hk⟩ : ∃ k : Nat, x.f3[j]'hlt = (k : Int) := ⟨(x.f3[j]'hlt).toNat, by have := HKD.out _ (List.getElem_mem hlt); omega⟩
          have hkb := HKD.out _ (List.getElem_mem hlt)
          rw [hk] at q0 hkb HTK
          rw [Int.toNat_natCast] at HTK
          have hk0 : (0 : Int) ≤ (k : Int) := by omega
          have hkn : (k : Int) < (t.length : Int) := by have := HI.out; omega
          have HKI := Go.Lib.hid (show k < i by omega)
          have hkc := HNA.out.cell k (by omega) (by omega)
          generalize hkb0 : (x.f3.take j).map (fun k => ps k.toNat) = kb at hbu HTK
          have HKB := Go.Lib.hid (show kb.length ≤ 4096 by rw [← hkb0, List.length_map, List.length_take]; omega)
          clear hlt hk hkb hkb0
          have n0 := hbu.out.old q0
          have n1 := hbu.out.old hkc
          obtain ⟨⟨n3, f3⟩, -⟩ := hbu.out.cells
          have N3 : ∀ o, (wi.alloc o).cell? ⟨b, 3, none⟩ = some v3 := fun o => (hbu.out.lift (below_alloc (Below.refl _ _) o)).cells.1.1
          clear q0 hkc
          go_wp2_with fail
          have HBD := Go.Lib.hid (hbu.out.lift (below_drew (Below.refl _ _)))
          go_region_law ((refine Kd.R_append_step kp (w0 := w1) (W := wi.drew) w1.heap.size (by rfl) (.tmp 41) (.tmp 46) 93 66 (.pointer none) 8 rfl Tryd.underlying93 info66 rfl (by decide) (by decide) v3 kb (ps k) [ptrV (ps k)] (fun _ => True) (fun _ => False) (by simp [Act.eval, Act.put]) (by simp [Act.eval, Act.put]) rfl (fun _ h => h.elim) (fun _ _ => trivial) HBD.out.r3 HBD.out.bl HBD.out.bl.size (by have := HKB.out; omega) ?_; intro v9 w9 hr9 hb9 hg9 hat9; obtain ⟨A9, c9, rfl⟩ := Kd.R_slice hr9; have HB9 := Go.Lib.hid (HBD.out.kid hr9 hb9 hg9); obtain ⟨g3, gf3⟩ := HBD.out.grown3 hg9; clear hr9 hb9 hg9 hat9))
          all_goals
            go_wp2_with fail
            go_roundg (gk - 1)
            case measure => have := hj.out; have := HJ.out; omega
            case rel => exact ⟨j + 1, .slice A9 (kb.length + 1) c9, Go.Lib.hid (by have := hj.out; have := HJ.out; omega), by go_num, Go.Lib.hid (by have h := HB9.out; rw [List.length_append, List.length_singleton] at h; rw [HTK.out]; exact h)⟩
        · have hd : decide ((j : Int) < (x.f3.length : Int)) = false := decide_eq_false (by omega)
          have hd2 : decide (j < x.f3.length) = false := decide_eq_false hlt
          have HB3 := Go.Lib.hid (show Bu w1 b x.f0 x.f1 (.slice A5 x.f2.length c5) v3 (.slice none 0 0) x.f2 (x.f3.map fun k => ps k.toNat) [] wi by have h := hbu.out; rw [List.take_of_length_le (by omega)] at h; exact h)
          obtain ⟨-, -, -, -, y4⟩ := HX1.out.cells
          have y4 := HB3.out.old y4
          clear hlt hbu hj
          go_wp2_with fail
          have ha9 : (x.f4.length : Int) ≤ 4096 := by have := HFT.out.a; omega
          clear y4
          go_loopg [54] x.f4.length (fun g_ v54 w' => ∃ (j : Nat) (v4 : Value), Hid (j + g_ = x.f4.length) ∧ v54 = .int .i64 j ∧ Hid (Bu w1 b x.f0 x.f1 (.slice A5 x.f2.length c5) v3 v4 x.f2 (x.f3.map fun k => ps k.toNat) (x.f4.take j) w'))
          case atStart => exact ⟨0, _, Go.Lib.hid (by omega), rfl, HB3⟩
          case round =>
            clear HB3
            obtain ⟨j, v4, hj, rfl, hbu⟩ := hrel
            obtain ⟨wi, hwi⟩ : ∃ wi : World, wi = wr := ⟨_, rfl⟩
            subst hwi
            by_cases hlt : j < x.f4.length
            · have hltj : (j : Int) < (x.f4.length : Int) := by omega
              have hj0 : (0 : Int) ≤ (j : Int) := by omega
              have HJ := Go.Lib.hid hlt
              obtain ⟨ad4, A1, c1, e_, q0, q1, r1, r2⟩ := at_T86 HG4.out (j : Int) hj0 hltj
              cases e_
              rw [rdA_nat x.f4 j hlt] at q0 q1 r1 r2
              rw [Int.toNat_natCast] at q0 q1
              have HTK := Go.Lib.hid (List.take_succ_eq_append_getElem hlt)
              have HAL := Go.Lib.hid (HFT.out.ab _ (List.getElem_mem hlt))
              generalize x.f4[j]'hlt = a at q0 q1 r1 r2 HTK HAL
              generalize hal0 : x.f4.take j = al at hbu HTK
              have HKB := Go.Lib.hid (show al.length ≤ 4096 by rw [← hal0, List.length_take]; omega)
              replace q0 := hbu.out.old q0
              replace q1 := hbu.out.old q1
              obtain ⟨wa, hwa⟩ : ∃ wa, wa = wi.alloc (.cells #[.int .i64 a.f0, .slice A1 a.f1.length c1] 86) := ⟨_, rfl⟩
              have HBA := Go.Lib.hid (show Below wi.heap.size wi wa by rw [hwa]; exact below_alloc (Below.refl _ _) _)
              have HXA := Go.Lib.hid (show Bxa wa wi.heap.size a A1 c1 by rw [hwa]; exact Bxa.made wi a A1 c1)
              have HQ2 := Go.Lib.hid (Kd.C_below (Kd.C_below r2 hbu.out.bl) HBA.out)
              have HLA := Go.Lib.hid (show a.f1.length ≤ 17592186044416 by have := HAL.out; omega)
              have HWA := Go.Lib.hid hwa
              clear hlt r1 r2 hal0 hwa
              go_wp2_with fail
              rw [← HWA.out]
              clear q0 q1
              have HBD := Go.Lib.hid ((hbu.out.lift HBA.out).lift (below_drew (Below.refl _ _)))
              obtain ⟨y0, y1⟩ := HXA.out.cells
              obtain ⟨-, n4, f4⟩ := (hbu.out.lift HBA.out).cells
              go_region_law (first
                | (refine Kd.R_append_step k86 (w0 := w1) (W := wn) w1.heap.size (by rfl) (.tmp 62) (.tmp 69) 26 86 (.agg #[.int .i64 0, .slice none 0 0]) 32 rfl Tryd.underlying26 info86 rfl (by decide) (by decide) v4 al a [.int .i64 a.f0, .slice A7 a.f1.length c7] (fun _ => True) _ (by simp [Act.eval, Act.put]) (by simp [Act.eval, Act.put]) (k86_mkM wn w1.heap.size _ a HR7.out) (fun k hk => hk) (fun _ _ => trivial) HBN.out.r4 HBN.out.bl HBN.out.bl.size (by have := HKB.out; omega) ?_; intro v9 w9 hr9 hb9 hg9 hat9; obtain ⟨A9, c9, rfl⟩ := Kd.R_slice hr9; have HB9 := Go.Lib.hid (HBN.out.alt hr9 hb9 hg9); obtain ⟨g4, gf4⟩ := HBN.out.grown4 hg9; clear hr9 hb9 hg9 hat9)
                | (go_simp; go_at_call 83; refine (clone_calls a.f1 A1 c1 _ (Kd.C_below HQ2.out (below_drew (Below.refl _ _))) HLA.out).mono ?_; rintro e wn ⟨v7, rfl, hr7, hb7⟩; obtain ⟨A7, c7, rfl⟩ := Kd.R_slice hr7; have HBN := Go.Lib.hid (HBD.out.lift hb7); have HR7 := Go.Lib.hid (Kd.R_lower (Kd.R_newR hr7 HBD.out.r4) HBD.out.bl.size); have z0 := ((HXA.out.below (below_drew (Below.refl _ _))).below hb7).cells.1; obtain ⟨-, z4, zf4⟩ := HBN.out.cells; have Z4 : ∀ o, (wn.alloc o).cell? ⟨b, 4, none⟩ = some v4 := (fun o => (HBN.out.lift (below_alloc (Below.refl _ _) o)).cells.2.1); clear hr7 hb7))
              all_goals
                go_wp2_with fail
                go_roundg (gk - 1)
                case measure => have := hj.out; have := HJ.out; omega
                case rel => exact ⟨j + 1, .slice A9 (al.length + 1) c9, Go.Lib.hid (by have := hj.out; have := HJ.out; omega), by go_num, Go.Lib.hid (by have h := HB9.out; rw [List.length_append, List.length_singleton] at h; rw [HTK.out]; exact h)⟩
            · have hd : decide ((j : Int) < (x.f4.length : Int)) = false := decide_eq_false (by omega)
              have hd2 : decide (j < x.f4.length) = false := decide_eq_false hlt
              have HB4 := Go.Lib.hid (show Bu w1 b x.f0 x.f1 (.slice A5 x.f2.length c5) v3 v4 x.f2 (x.f3.map fun k => ps k.toNat) x.f4 wi by have h := hbu.out; rw [List.take_of_length_le (by omega)] at h; exact h)
              have HNI := Go.Lib.hid (HNA.out.below HB4.out.bl)
              have m0 := blk_frozen HNI.out i
              have m1 := HNI.out.cell0 HI.out
              clear hlt hbu hj
              go_wp2_with fail
              go_roundg (ga - 1)
              case measure => have := hi.out; have := HI.out; omega
              case rel => exact ⟨i + 1, fset ps i b, _, Go.Lib.hid (by have := hi.out; have := HI.out; omega), by go_num, Go.Lib.hid (hgr.out.next HB1.out HB4.out HNI.out HI.out HNX.out)⟩
    · have hd : decide ((i : Int) < (t.length : Int)) = false := decide_eq_false (by omega)
      have hd2 : decide (i < t.length) = false := decide_eq_false hlt
      have HE := Go.Lib.hid (show Gr w wo t t.length ps lo by have h := hgr.out; rw [show i = t.length by have := hi.out; omega] at h; exact h)
      have hl0 : (0 : Int) ≤ (t.length : Int) - 1 := by have := H0.out; omega
      have hl1 : (t.length : Int) - 1 < (t.length : Int) := by omega
      have hl2 : (1 : Int) ≤ (t.length : Int) := by omega
      have hln : ((t.length : Int) - 1).toNat = t.length - 1 := by omega
      have m1 := HE.out.na.cell (t.length - 1) (by have := H0.out; omega) (by have := H0.out; omega)
      clear hlt hgr hi
      go_wp2_with fail
      go_ret
      exact GroP.mk HE.out
end Go.Proofs.YtjhinklijopobaaDoor.Co
namespace Go.Proofs.YtjhinklijopobaaDoor.Co
open Go.RowKit Go.Proofs.YtjhinklijopobaaDoor.PCoreChecks Go.Proofs.YtjhinklijopobaaDoorW.PrintWords Go.Proofs.YtjhinklijopobaaDoorW.PrintLast Go.Proofs.YtjhinklijopobaaDoorW.PrintMore
set_option linter.unusedVariables false
set_option linter.unusedSimpArgs false

/-! ### slices.Contains -/
theorem idx_l0 (l : List Int) (n : Int) (hl : l.length ≤ 17592186044416) : ∀ (m i : Nat), i + m = l.length → ∃ r : Int, Evs (fun k => slices_Index_int_int.l0 k l n (l.length : Int) (i : Int)) r ∧ (0 ≤ r ↔ n ∈ l.drop i) := by
  intro m
  induction m with
  | zero =>
    intro i hi
    refine ⟨-1, Evs.now fun k => ?_, ?_⟩
    · simp only [slices_Index_int_int.l0]
      rw [if_neg (by omega)]
    · rw [List.drop_of_length_le (by omega)]; simp
  | succ m ih =>
    intro i hi
    have hi' : i < l.length := by omega
    by_cases e : n = l[i]'hi'
    · refine ⟨i, Evs.now fun k => ?_, ?_⟩
      · simp only [slices_Index_int_int.l0]
        rw [if_pos (by omega), if_pos (by omega), if_pos (by omega), rd_nat l i hi', if_pos e]
      · constructor
        · intro _; rw [List.drop_eq_getElem_cons hi', ← e]; exact List.mem_cons_self
        · intro _; omega
    · obtain ⟨r, h1, h2⟩ := ih (i + 1) (by omega)
      refine ⟨r, Evs.step h1 fun k => ?_, ?_⟩
      · simp only [slices_Index_int_int.l0]
        rw [if_pos (by omega), if_pos (by omega), if_pos (by omega), rd_nat l i hi', if_neg e, up_nat i (by omega)]
      · rw [h2, List.drop_eq_getElem_cons hi', List.mem_cons]
        simp [e]
theorem has_calls (l : List Int) (hl : l.length ≤ 17592186044416) (A : Option Addr) (c : Nat) (n : Int) (w : World) (hC : Kd.C (Kd.int .i64) w A l.length l) (hc : l.length ≤ c) :
    Calls Tryd.prog 74 #[.slice A l.length c, .int .i64 n] w fun e w' => e = .returned (.bool (decide (n ∈ l))) ∧ Below w.heap.size w w' := by
  obtain ⟨r, ⟨K, hK⟩, h2⟩ := idx_l0 l n hl l.length 0 (by omega)
  refine (slices_Contains_int_int.calls K A c l n (decide (n ∈ l)) w hC hc ?_).mono fun e w' h => ⟨h.1, h.2.below⟩
  have h3 := hK K (Nat.le_refl _)
  unfold slices_Contains_int_int.f slices_Index_int_int.f
  simp only [Int.natCast_zero] at h3
  rw [h3]
  rw [List.drop_zero] at h2
  simp [h2]

/-! ### What a tree without errors is -/
theorem par_exists {t : List S28} (h : treeB t = true) : ∃ P, Par t P := by
  obtain ⟨h0, hr, hone⟩ := treeB_parts h
  have key : ∀ k, k < t.length - 1 → ∃ (i : Nat) (hi : i < t.length), k < i ∧ (k : Int) ∈ (t[i]'hi).f3 := by
    intro k hk
    have h1 := hone k hk
    have h2 : (k : Int) ∈ kidsT t := List.count_pos_iff.1 (by omega)
    unfold kidsT at h2
    obtain ⟨x, hx, hkx⟩ := List.mem_flatMap.1 h2
    obtain ⟨i, hi, rfl⟩ := List.mem_iff_getElem.1 hx
    have := badK_mem (rB_at hr i hi) hkx
    exact ⟨i, hi, by omega, hkx⟩
  let f : Nat → Int := fun k => if hk : k < t.length - 1 then ((Classical.choose (key k hk) : Nat) : Int) else -1
  refine ⟨(List.range t.length).map f, h, by simp, ?_, fun k hk => ?_⟩
  · rw [List.getElem?_map, List.getElem?_range (by omega)]
    show some (f (t.length - 1)) = some (-1)
    have : f (t.length - 1) = -1 := dif_neg (by omega)
    rw [this]
  · obtain ⟨hi, h1, h2⟩ := Classical.choose_spec (key k hk)
    refine ⟨Classical.choose (key k hk), hi, ?_, h1, h2⟩
    rw [List.getElem?_map, List.getElem?_range (by omega)]
    show some (f k) = _
    have : f k = ((Classical.choose (key k hk) : Nat) : Int) := dif_pos hk
    rw [this]
theorem idB_id {z : Int} (h : idB z = true) : idz z := by
  unfold idB inB at h
  simp only [Bool.and_eq_true, decide_eq_true_eq] at h
  unfold idz
  omega
theorem ok_of {t : List S28} {flat : Bool} (h : treeB t = true) (hn : t.length ≤ 4096) {x : S28} (hx : x ∈ t) (he : nodeErr flat t x = 0) : Ok x := by
  obtain ⟨hf, hnum, _⟩ := nodeErr_ok he
  have hfit := fit_of h hn hx hf hnum
  unfold numErr at hnum
  split at hnum
  · rename_i h1
    split at hnum
    · rename_i h2
      split at hnum
      · rename_i h3
        refine ⟨hfit, form_none hf, form_alts hf, fun z hz => idB_id (List.all_eq_true.1 h2 z hz), fun y hy z hz => ?_, fun h0 => ?_⟩
        · have h4 := List.all_eq_true.1 h3 y hy
          unfold altR at h4
          simp only [Bool.and_eq_true] at h4
          exact idB_id (List.all_eq_true.1 h4.2 z hz)
        · rw [h0] at h1
          unfold inB loB hiB at h1
          simp at h1
          unfold idz
          omega
      · omega
    · omega
  · omega
theorem ids_of {x : S28} (h : Ok x) : ∀ z ∈ bindsOf x, idz z := by
  intro z hz
  unfold bindsOf at hz
  rcases List.mem_append.1 hz with hz | hz
  · split at hz
    · exact h.ids z hz
    · simp at hz
  · obtain ⟨y, hy, hz⟩ := List.mem_flatMap.1 hz
    exact h.aids y hy z hz
theorem tErr_bad {t : List S28} {params : List Int} {flat : Bool} (h : tErr t ≠ 0) : bodyErr t params flat = tErr t := by
  unfold tErr at h ⊢
  unfold bodyErr
  by_cases h1 : 4096 < t.length
  · rw [if_pos h1, if_pos h1]
  · rw [if_neg h1] at h
    rw [if_neg h1, if_neg h1]
    by_cases h2 : treeB t = true
    · rw [if_pos h2] at h
      rw [if_pos h2, if_pos h2]
      by_cases h3 : 400 < heightT t
      · rw [if_pos h3, if_pos h3]
      · rw [if_neg h3] at h; exact absurd rfl h
    · rw [if_neg h2, if_neg h2]
theorem tErr_zero {t : List S28} (h : tErr t = 0) : ¬ 4096 < t.length ∧ treeB t = true ∧ ¬ 400 < heightT t := by
  unfold tErr at h
  split at h
  · omega
  · rename_i h1
    split at h
    · rename_i h2
      split at h
      · omega
      · rename_i h3; exact ⟨h1, h2, h3⟩
    · omega
end Go.Proofs.YtjhinklijopobaaDoor.Co
namespace Go.Proofs.YtjhinklijopobaaDoor.Co
open Go.RowKit Go.Proofs.YtjhinklijopobaaDoor.PCoreChecks Go.Proofs.YtjhinklijopobaaDoorW.PrintWords Go.Proofs.YtjhinklijopobaaDoorW.PrintLast Go.Proofs.YtjhinklijopobaaDoorW.PrintMore
set_option linter.unusedVariables false
set_option linter.unusedSimpArgs false
theorem coreOnly_f (op : Int) : core_coreOnly.f op = some (coreOp op) := by
  unfold core_coreOnly.f coreOp
  repeat' split
  all_goals rfl
theorem flatOnly_f (op : Int) : core_flatOnly.f op = some (flatOp op) := by
  unfold core_flatOnly.f flatOp
  repeat' split
  all_goals rfl
theorem coreOnly_calls (op : Int) (w : World) : Calls Tryd.prog 69 #[.int .i64 op] w fun e w' => e = .returned (.bool (coreOp op)) ∧ Drawn0 w w' := core_coreOnly.calls op _ w (coreOnly_f op)
theorem flatOnly_calls (op : Int) (w : World) : Calls Tryd.prog 70 #[.int .i64 op] w fun e w' => e = .returned (.bool (flatOp op)) ∧ Drawn0 w w' := core_flatOnly.calls op _ w (flatOnly_f op)
end Go.Proofs.YtjhinklijopobaaDoor.Co
