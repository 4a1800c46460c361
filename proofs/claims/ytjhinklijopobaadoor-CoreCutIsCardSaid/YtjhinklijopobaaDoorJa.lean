import Derived.Test.YtjhinklijopobaaDoorGc
import Derived.Test.YtjhinklijopobaaDoorFd
namespace Go.Proofs.YtjhinklijopobaaDoor.Co
open Go.RowKit Go.Proofs.YtjhinklijopobaaDoor.PCoreChecks Go.Proofs.YtjhinklijopobaaDoorW.PrintWords Go.Proofs.YtjhinklijopobaaDoorW.PrintLast Go.Proofs.YtjhinklijopobaaDoorW.PrintMore
set_option linter.unusedVariables false
set_option linter.unusedSimpArgs false

theorem cntK_mono {t : List S28} (htr : treeB t = true) {i : Nat} (hi : i < t.length) {j j' : Nat} (h : j ≤ j') (h2 : j' ≤ (t[i]'hi).f3.length) : cntK t i j ≤ cntK t i j' := by
  obtain ⟨d, rfl⟩ : ∃ d, j' = j + d := ⟨j' - j, by omega⟩
  clear h
  induction d with
  | zero => exact Nat.le_refl _
  | succ d ihd =>
    have hj' : j + d < (t[i]'hi).f3.length := by omega
    have hm := badK_mem (rB_at (treeB_parts htr).2.1 i hi) (List.getElem_mem hj')
    obtain ⟨c, hc⟩ : ∃ c : Nat, (t[i]'hi).f3[j + d]'hj' = (c : Int) := ⟨((t[i]'hi).f3[j + d]'hj').toNat, by omega⟩
    have h1 := ihd (by omega)
    have h2 := cntK_succ htr hi hj' hc
    rw [← Nat.add_assoc, h2]
    omega
/-! ### core.List: the state of the walk -/
/-- The walk itself, as a value. -/
def fv88 (wb ob : Nat) : Value := .func (.func 88) #[] #[ptrV wb, ptrV ob]
/-- The list that is made lies in a box; its rows are the call's own. -/
structure Ow (w0 W : World) (ob : Nat) (ok : Nat → Prop) (v : Value) (o : List S28) : Prop where
  bl : Below w0.heap.size w0 W
  bx : W.heap[ob]? = some (.cells #[v] 22 (0, 0))
  lo : w0.heap.size ≤ ob
  r : Kd.R k28 28 W w0.heap.size ok v o
theorem e28 : ∀ q, q ∈ 28 :: k28.E → q = 28 ∨ q = 3 ∨ q = 86 := fun q hq => by
  have : (28 :: k28.E : List Nat) = [28, 3, 3, 86, 3] := rfl
  rw [this] at hq
  simp at hq
  omega
theorem Ow.reads {w0 W : World} {ob : Nat} {ok : Nat → Prop} {v : Value} {o : List S28} (h : Ow w0 W ob ok v o) : ∃ A c, v = .slice A o.length c ∧ o.length ≤ c ∧ Kd.C k28 W A o.length o := Kd.R_reads h.r
/-- What a node's listing is done with. -/
structure Lc (w0 We : World) (ob wb : Nat) (ok : Nat → Prop) : Prop where
  lo : w0.heap.size ≤ ob
  hi : ob < We.heap.size
  le : w0.heap.size ≤ We.heap.size
  wx : We.heap[wb]? = some (.cells #[fv88 wb ob] 65 (0, 0))
  wo : wb ≠ ob
  wk : ¬ ok wb
  ok : ∀ k, We.heap.size ≤ k → ok k
def okL (ok : Nat → Prop) (b : Nat) (v2 vk : Value) : Nat → Prop := fun k => (ok k ∧ k ≠ b ∧ some k ≠ v2.ownBlock) ∧ some k ≠ vk.ownBlock
/-- A node while its kids are listed. -/
structure Lk (w0 We W : World) (ob : Nat) (ok : Nat → Prop) (b : Nat) (op n : Int) (v2 vk v : Value) (bs ks : List Int) (o : List S28) : Prop where
  hb : We.heap.size ≤ b
  bl : Below w0.heap.size w0 W
  bx : W.heap[ob]? = some (.cells #[v] 22 (0, 0))
  tx : W.heap[b]? = some (.cells #[.int .i64 op, .int .i64 n, v2, vk, .slice none 0 0] 28 (0, 0))
  r2 : Kd.R (Kd.int .i64) 3 W w0.heap.size (fun k => We.heap.size ≤ k ∧ some k ≠ vk.ownBlock) v2 bs
  rk : Kd.R (Kd.int .i64) 3 W w0.heap.size (fun k => We.heap.size ≤ k) vk ks
  ro : Kd.R k28 28 W w0.heap.size (okL ok b v2 vk) v o
  fr : Fr We W ob ok
def LpP (w0 : World) (t : List S28) (m i : Nat) (W : World) (ob : Nat) (ok : Nat → Prop) (o : List S28) (e : Ending) (w' : World) : Prop :=
  ∃ v', e = .returned (.int .i64 (((o.length + cntB t i : Nat) : Int) - 1)) ∧ Ow w0 w' ob ok v' (o ++ lst t m i o.length) ∧ Fr W w' ob ok
theorem LpP.mk {w0 : World} {t : List S28} {m i : Nat} {W w' : World} {ob : Nat} {ok : Nat → Prop} {o oo : List S28} {v' : Value} {z : Int} (hz : z = ((o.length + cntB t i : Nat) : Int) - 1) (hO : Ow w0 w' ob ok v' oo) (ho : oo = o ++ lst t m i o.length) (hF : Fr W w' ob ok) : LpP w0 t m i W ob ok o (.returned (.int .i64 z)) w' := by
  subst hz ho
  exact ⟨v', rfl, hO, hF⟩
/-- The node's box and the row of its identifiers have been made, in any order. -/
theorem Lk.start {w0 We W : World} {ob b : Nat} {ok : Nat → Prop} {op n : Int} {v2 v : Value} {bs : List Int} {o : List S28} (h : Ow w0 We ob ok v o) (hb : Below We.heap.size We W) (hbb : We.heap.size ≤ b) (htx : W.heap[b]? = some (.cells #[.int .i64 op, .int .i64 n, v2, .slice none 0 0, .slice none 0 0] 28 (0, 0)))
    (hr : Kd.R (Kd.int .i64) 3 W We.heap.size (fun _ => True) v2 bs) : Lk w0 We W ob ok b op n v2 (.slice none 0 0) v bs [] o := by
  refine ⟨hbb, below_step h.bl hb, (hb.block ob (blk_lt h.bx)).trans h.bx, htx, ?_, Kd.R_nil _ _ _ _ _, ?_, hb.size, fun k hk _ _ => hb.block k hk⟩
  · exact Kd.R_lower (Kd.R_mono (Kd.R_bound hr) (fun k hk => ⟨hk.2.1, by simp [Value.ownBlock]⟩)) h.bl.size
  · refine Kd.R_below (Kd.R_mono (Kd.R_bound h.r) (fun k hk => ⟨⟨hk.1, fun e => by have := hk.2.2.1; omega, fun e => ?_⟩, by simp [Value.ownBlock]⟩)) hb
    have h1 := Kd.R_base hr k e.symm
    have h2 := hk.2.2.1
    omega
theorem Lk.lift {w0 We W W' : World} {ob b : Nat} {ok : Nat → Prop} {op n : Int} {v2 vk v : Value} {bs ks : List Int} {o : List S28} (h : Lk w0 We W ob ok b op n v2 vk v bs ks o) (hb : Below W.heap.size W W') : Lk w0 We W' ob ok b op n v2 vk v bs ks o :=
  ⟨h.hb, below_step h.bl hb, (hb.block ob (blk_lt h.bx)).trans h.bx, (hb.block b (blk_lt h.tx)).trans h.tx, Kd.R_below h.r2 hb, Kd.R_below h.rk hb, Kd.R_below h.ro hb, h.fr.below hb⟩
theorem Lk.kidOut {w0 We W : World} {ob wb b : Nat} {ok : Nat → Prop} {op n : Int} {v2 vk v : Value} {bs ks : List Int} {o : List S28} (h : Lk w0 We W ob ok b op n v2 vk v bs ks o) (hc : Lc w0 We ob wb ok) : Ow w0 W ob (okL ok b v2 vk) v o := ⟨h.bl, h.bx, hc.lo, h.ro⟩
theorem Lk.kidC {w0 We W : World} {ob wb b : Nat} {ok : Nat → Prop} {op n : Int} {v2 vk v : Value} {bs ks : List Int} {o : List S28} (h : Lk w0 We W ob ok b op n v2 vk v bs ks o) (hc : Lc w0 We ob wb ok) : Lc w0 W ob wb (okL ok b v2 vk) := by
  refine ⟨hc.lo, Nat.lt_of_lt_of_le hc.hi h.fr.1, Nat.le_trans hc.le h.fr.1, (h.fr.2 wb (blk_lt hc.wx) hc.wo hc.wk).trans hc.wx, hc.wo, fun hk => hc.wk hk.1.1, fun k hk => ?_⟩
  refine ⟨⟨hc.ok k (Nat.le_trans h.fr.1 hk), fun e => ?_, fun e => ?_⟩, fun e => ?_⟩
  · have := blk_lt h.tx; omega
  · have := Kd.R_lt h.r2 k e.symm; omega
  · have := Kd.R_lt h.rk k e.symm; omega
theorem Lk.called {w0 We W W' : World} {ob wb b : Nat} {ok : Nat → Prop} {op n : Int} {v2 vk v v' : Value} {bs ks : List Int} {o o' : List S28} (h : Lk w0 We W ob ok b op n v2 vk v bs ks o) (hc : Lc w0 We ob wb ok) (hO : Ow w0 W' ob (okL ok b v2 vk) v' o') (hF : Fr W W' ob (okL ok b v2 vk)) : Lk w0 We W' ob ok b op n v2 vk v' bs ks o' := by
  have hbo : b ≠ ob := by have := h.hb; have := hc.hi; omega
  have key : ∀ (u : Value) (xs : List Int) (ok1 : Nat → Prop), Kd.R (Kd.int .i64) 3 W w0.heap.size ok1 u xs → (∀ k, u.ownBlock = some k → ¬ okL ok b v2 vk k) → ∀ k, u.ownBlock = some k → W'.heap[k]? = W.heap[k]? := by
    intro u xs ok1 hr hn k hk
    obtain ⟨cells, hcl⟩ := Kd.R_typed hr k hk
    refine hF.2 k (Kd.R_lt hr k hk) (fun e => ?_) (hn k hk)
    subst e
    rw [h.bx] at hcl
    injection hcl with hcl
    injection hcl with _ hcl
    exact absurd hcl (by decide)
  refine ⟨h.hb, hO.bl, hO.bx, (hF.2 b (blk_lt h.tx) hbo (fun h2 => h2.1.2.1 rfl)).trans h.tx, ?_, ?_, hO.r, Nat.le_trans h.fr.1 hF.1, fun k hk h1 h2 => ?_⟩
  · exact Kd.R_of_own (own_move (Kd.own_of_R h.r2) (key v2 bs _ h.r2 (fun k hk h2 => h2.1.2.2 hk.symm))) h.r2.1
  · exact Kd.R_of_own (own_move (Kd.own_of_R h.rk) (key vk ks _ h.rk (fun k hk h2 => h2.2 hk.symm))) h.rk.1
  · exact (hF.2 k (Nat.lt_of_lt_of_le hk h.fr.1) h1 (fun h3 => h2 h3.1.1)).trans (h.fr.2 k hk h1 h2)
theorem set_size (W : World) (a : Addr) (u : Value) : (W.setCell a u).heap.size = W.heap.size := by simp [World.setCell]
theorem Lk.kid {w0 We W W' : World} {ob wb b : Nat} {ok : Nat → Prop} {op n : Int} {v2 vk vk' v : Value} {bs ks : List Int} {z : Int} {o : List S28} (h : Lk w0 We W ob ok b op n v2 vk v bs ks o) (hc : Lc w0 We ob wb ok)
    (hr : Kd.R (Kd.int .i64) 3 W' w0.heap.size (fun k => We.heap.size ≤ k) vk' (ks ++ [z])) (hb : Below w0.heap.size w0 W') (hg : W.grownBy W' vk.ownBlock) (hat : vk'.ownBlock = vk.ownBlock ∨ ∃ b, vk'.ownBlock = some b ∧ W.heap.size ≤ b) :
    Lk w0 We (W'.setCell ⟨b, 3, none⟩ vk') ob ok b op n v2 vk' v bs (ks ++ [z]) o := by
  have hbo : b ≠ ob := by have := h.hb; have := hc.hi; omega
  have htx := blk_grown h.tx hg (Kd.R_ne h.rk h.tx (by decide))
  have hbx := blk_grown h.bx hg (Kd.R_ne h.rk h.bx (by decide))
  refine ⟨h.hb, below_set hb (Nat.le_trans hc.le h.hb), blk_far hbx (fun e => hbo e.symm) _, blk_put htx 3 _ rfl, ?_, Kd.R_set hr htx (fun q hq => by rw [List.mem_singleton.1 hq]; decide) 3 _, ?_, ?_, ?_⟩
  · exact Kd.R_set (Kd.R_after h.r2 hg hat) htx (fun q hq => by rw [List.mem_singleton.1 hq]; decide) 3 _
  · exact Kd.R_far (p := ⟨b, 3, none⟩) (Kd.R_after h.ro hg hat) (fun k hk => hk.1.2.1) _
  · rw [set_size]; exact Nat.le_trans h.fr.1 hg.size
  · intro k hk h1 h2
    have hkb : k ≠ b := by have := h.hb; omega
    rw [Below.heap_setCell W' ⟨b, 3, none⟩ vk' k hkb, hg.block k (Nat.lt_of_lt_of_le hk h.fr.1) (fun e => ?_)]
    · exact h.fr.2 k hk h1 h2
    · have := h.rk.1 k e.symm
      omega
theorem Lk.cells {w0 We W : World} {ob b : Nat} {ok : Nat → Prop} {op n : Int} {v2 vk v : Value} {bs ks : List Int} {o : List S28} (h : Lk w0 We W ob ok b op n v2 vk v bs ks o) : W.cell? ⟨b, 3, none⟩ = some vk ∧ W.frozen? ⟨b, 3, none⟩ = false :=
  ⟨(blk_cell h.tx 3).trans rfl, blk_frozen h.tx 3⟩
theorem Lk.grownB {w0 We W W' : World} {ob b : Nat} {ok : Nat → Prop} {op n : Int} {v2 vk v : Value} {bs ks : List Int} {o : List S28} (h : Lk w0 We W ob ok b op n v2 vk v bs ks o) (hg : W.grownBy W' vk.ownBlock) : W'.cell? ⟨b, 3, none⟩ = some vk ∧ W'.frozen? ⟨b, 3, none⟩ = false := by
  have htx := blk_grown h.tx hg (Kd.R_ne h.rk h.tx (by decide))
  exact ⟨(blk_cell htx 3).trans rfl, blk_frozen htx 3⟩
/-- A node while its alternatives are copied. -/
structure Lt (w0 We W : World) (ob : Nat) (ok : Nat → Prop) (b : Nat) (op n : Int) (v2 vk v4 v : Value) (bs ks : List Int) (al : List S86) (o : List S28) : Prop where
  hb : We.heap.size ≤ b
  bl : Below w0.heap.size w0 W
  bx : W.heap[ob]? = some (.cells #[v] 22 (0, 0))
  tx : W.heap[b]? = some (.cells #[.int .i64 op, .int .i64 n, v2, vk, v4] 28 (0, 0))
  r2 : Kd.R (Kd.int .i64) 3 W w0.heap.size (fun k => We.heap.size ≤ k) v2 bs
  rk : Kd.R (Kd.int .i64) 3 W w0.heap.size (fun k => We.heap.size ≤ k) vk ks
  r4 : Kd.R k86 86 W w0.heap.size (fun k => We.heap.size ≤ k) v4 al
  ro : Kd.R k28 28 W w0.heap.size (fun k => (ok k ∧ k ≠ b) ∧ some k ≠ v4.ownBlock) v o
  fr : Fr We W ob ok
theorem Lk.alts {w0 We W : World} {ob b : Nat} {ok : Nat → Prop} {op n : Int} {v2 vk v : Value} {bs ks : List Int} {o : List S28} (h : Lk w0 We W ob ok b op n v2 vk v bs ks o) : Lt w0 We W ob ok b op n v2 vk (.slice none 0 0) v bs ks [] o :=
  ⟨h.hb, h.bl, h.bx, h.tx, Kd.R_mono h.r2 (fun _ hk => hk.1), h.rk, Kd.R_nil _ _ _ _ _, Kd.R_mono h.ro (fun k hk => ⟨⟨hk.1.1, hk.1.2.1⟩, by simp [Value.ownBlock]⟩), h.fr⟩
theorem Lt.lift {w0 We W W' : World} {ob b : Nat} {ok : Nat → Prop} {op n : Int} {v2 vk v4 v : Value} {bs ks : List Int} {al : List S86} {o : List S28} (h : Lt w0 We W ob ok b op n v2 vk v4 v bs ks al o) (hb : Below W.heap.size W W') : Lt w0 We W' ob ok b op n v2 vk v4 v bs ks al o :=
  ⟨h.hb, below_step h.bl hb, (hb.block ob (blk_lt h.bx)).trans h.bx, (hb.block b (blk_lt h.tx)).trans h.tx, Kd.R_below h.r2 hb, Kd.R_below h.rk hb, Kd.R_below h.r4 hb, Kd.R_below h.ro hb, h.fr.below hb⟩
theorem Lt.alt {w0 We W W' : World} {ob wb b : Nat} {ok : Nat → Prop} {op n : Int} {v2 vk v4 v4' v : Value} {bs ks : List Int} {al : List S86} {p : S86} {o : List S28} (h : Lt w0 We W ob ok b op n v2 vk v4 v bs ks al o) (hc : Lc w0 We ob wb ok)
    (hr : Kd.R k86 86 W' w0.heap.size (fun k => We.heap.size ≤ k) v4' (al ++ [p])) (hb : Below w0.heap.size w0 W') (hg : W.grownBy W' v4.ownBlock) (hat : v4'.ownBlock = v4.ownBlock ∨ ∃ b, v4'.ownBlock = some b ∧ W.heap.size ≤ b) :
    Lt w0 We (W'.setCell ⟨b, 4, none⟩ v4') ob ok b op n v2 vk v4' v bs ks (al ++ [p]) o := by
  have hbo : b ≠ ob := by have := h.hb; have := hc.hi; omega
  have htx := blk_grown h.tx hg (Kd.R_ne h.r4 h.tx (by decide))
  have hbx := blk_grown h.bx hg (Kd.R_ne h.r4 h.bx (by decide))
  refine ⟨h.hb, below_set hb (Nat.le_trans hc.le h.hb), blk_far hbx (fun e => hbo e.symm) _, blk_put htx 4 _ rfl, ?_, ?_, ?_, ?_, ?_, ?_⟩
  · exact Kd.R_set (Kd.R_over h.r2 h.r4 (fun q hq => by rw [List.mem_singleton.1 hq]; decide) hg) htx (fun q hq => by rw [List.mem_singleton.1 hq]; decide) 4 _
  · exact Kd.R_set (Kd.R_over h.rk h.r4 (fun q hq => by rw [List.mem_singleton.1 hq]; decide) hg) htx (fun q hq => by rw [List.mem_singleton.1 hq]; decide) 4 _
  · exact Kd.R_set hr htx (fun q hq => by rcases e86 q hq with rfl | rfl <;> decide) 4 _
  · exact Kd.R_far (p := ⟨b, 4, none⟩) (Kd.R_after h.ro hg hat) (fun k hk => hk.1.2) _
  · rw [set_size]; exact Nat.le_trans h.fr.1 hg.size
  · intro k hk h1 h2
    have hkb : k ≠ b := by have := h.hb; omega
    rw [Below.heap_setCell W' ⟨b, 4, none⟩ v4' k hkb, hg.block k (Nat.lt_of_lt_of_le hk h.fr.1) (fun e => ?_)]
    · exact h.fr.2 k hk h1 h2
    · have := h.r4.1 k e.symm
      omega
theorem Lt.cells {w0 We W : World} {ob b : Nat} {ok : Nat → Prop} {op n : Int} {v2 vk v4 v : Value} {bs ks : List Int} {al : List S86} {o : List S28} (h : Lt w0 We W ob ok b op n v2 vk v4 v bs ks al o) : (W.cell? ⟨b, 0, none⟩ = some (.int .i64 op) ∧ W.cell? ⟨b, 1, none⟩ = some (.int .i64 n) ∧ W.cell? ⟨b, 2, none⟩ = some v2 ∧ W.cell? ⟨b, 3, none⟩ = some vk ∧ W.cell? ⟨b, 4, none⟩ = some v4) ∧ W.frozen? ⟨b, 4, none⟩ = false ∧ W.cell? ⟨ob, 0, none⟩ = some v ∧ W.frozen? ⟨ob, 0, none⟩ = false :=
  ⟨⟨(blk_cell h.tx 0).trans rfl, (blk_cell h.tx 1).trans rfl, (blk_cell h.tx 2).trans rfl, (blk_cell h.tx 3).trans rfl, (blk_cell h.tx 4).trans rfl⟩, blk_frozen h.tx 4, (blk_cell h.bx 0).trans rfl, blk_frozen h.bx 0⟩
theorem Lt.grownB {w0 We W W' : World} {ob b : Nat} {ok : Nat → Prop} {op n : Int} {v2 vk v4 v : Value} {bs ks : List Int} {al : List S86} {o : List S28} (h : Lt w0 We W ob ok b op n v2 vk v4 v bs ks al o) (hg : W.grownBy W' v4.ownBlock) : W'.cell? ⟨b, 4, none⟩ = some v4 ∧ W'.frozen? ⟨b, 4, none⟩ = false := by
  have htx := blk_grown h.tx hg (Kd.R_ne h.r4 h.tx (by decide))
  exact ⟨(blk_cell htx 4).trans rfl, blk_frozen htx 4⟩
theorem Lt.grownO {w0 We W W' : World} {ob b : Nat} {ok : Nat → Prop} {op n : Int} {v2 vk v4 v : Value} {bs ks : List Int} {al : List S86} {o : List S28} (h : Lt w0 We W ob ok b op n v2 vk v4 v bs ks al o) (hg : W.grownBy W' v.ownBlock) : W'.cell? ⟨ob, 0, none⟩ = some v ∧ W'.frozen? ⟨ob, 0, none⟩ = false := by
  have hbx := blk_grown h.bx hg (Kd.R_ne h.ro h.bx (by decide))
  exact ⟨(blk_cell hbx 0).trans rfl, blk_frozen hbx 0⟩
theorem Lt.elem {w0 We W : World} {ob wb b : Nat} {ok : Nat → Prop} {x : S28} {v2 vk v4 v : Value} {ks : List Int} {o : List S28} (h : Lt w0 We W ob ok b x.f0 x.f1 v2 vk v4 v x.f2 ks x.f4 o) (hc : Lc w0 We ob wb ok) :
    k28.M W w0.heap.size (fun k => We.heap.size ≤ k ∧ some k ≠ v.ownBlock) ⟨x.f0, x.f1, x.f2, ks, x.f4⟩ [.int .i64 x.f0, .int .i64 x.f1, v2, vk, v4] ∧ ∀ k, (We.heap.size ≤ k ∧ some k ≠ v.ownBlock) → ok k ∧ some k ≠ v.ownBlock :=
  ⟨k28_mkM W w0.heap.size _ ⟨x.f0, x.f1, x.f2, ks, x.f4⟩ (Kd.R_apartR h.r2 h.ro (fun q hq => by rw [List.mem_singleton.1 hq]; decide)) (Kd.R_apartR h.rk h.ro (fun q hq => by rw [List.mem_singleton.1 hq]; decide)) (Kd.R_apartR h.r4 h.ro (fun q hq => by rcases e86 q hq with rfl | rfl <;> decide)), fun k hk => ⟨hc.ok k hk.1, hk.2⟩⟩
theorem Lt.outR {w0 We W : World} {ob b : Nat} {ok : Nat → Prop} {op n : Int} {v2 vk v4 v : Value} {bs ks : List Int} {al : List S86} {o : List S28} (h : Lt w0 We W ob ok b op n v2 vk v4 v bs ks al o) : Kd.R k28 28 W w0.heap.size ok v o := Kd.R_mono h.ro (fun k hk => hk.1.1)
theorem Lt.done {w0 We W W' : World} {ob wb b : Nat} {ok : Nat → Prop} {op n : Int} {v2 vk v4 v v' : Value} {bs ks : List Int} {al : List S86} {o o' : List S28} (h : Lt w0 We W ob ok b op n v2 vk v4 v bs ks al o) (hc : Lc w0 We ob wb ok)
    (hr : Kd.R k28 28 W' w0.heap.size ok v' o') (hb : Below w0.heap.size w0 W') (hg : W.grownBy W' v.ownBlock) :
    Ow w0 (W'.setCell ⟨ob, 0, none⟩ v') ob ok v' o' ∧ Fr We (W'.setCell ⟨ob, 0, none⟩ v') ob ok := by
  have hbx := blk_grown h.bx hg (Kd.R_ne h.ro h.bx (by decide))
  refine ⟨⟨below_set hb hc.lo, blk_put hbx 0 _ rfl, hc.lo, Kd.R_set hr hbx (fun q hq => by rcases e28 q hq with rfl | rfl | rfl <;> decide) 0 _⟩, ?_, ?_⟩
  · rw [set_size]; exact Nat.le_trans h.fr.1 hg.size
  · intro k hk h1 h2
    rw [Below.heap_setCell W' ⟨ob, 0, none⟩ v' k h1, hg.block k (Nat.lt_of_lt_of_le hk h.fr.1) (fun e => h2 (h.ro.1 k e.symm).1.1)]
    exact h.fr.2 k hk h1 h2
theorem kid_callL {w0 We W : World} {ob wb b m c : Nat} {t : List S28} {ok : Nat → Prop} {op n : Int} {v2 vk v : Value} {bs ks : List Int} {oo : List S28} {args : Array Value} (hI : Lk w0 We W ob ok b op n v2 vk v bs ks oo) (hc : Lc w0 We ob wb ok)
    (h : Calls Tryd.prog 88 args W (LpP w0 t m c W ob (okL ok b v2 vk) oo)) : Calls Tryd.prog 88 args W fun e wn => ∃ v', e = .returned (.int .i64 (((oo.length + cntB t c : Nat) : Int) - 1)) ∧ Lk w0 We wn ob ok b op n v2 vk v' bs ks (oo ++ lst t m c oo.length) :=
  h.mono fun e wn ⟨v', he, hO, hF⟩ => ⟨v', he, hI.called hc hO hF⟩
end Go.Proofs.YtjhinklijopobaaDoor.Co
