import Derived.Test.YtjhinklijopobaaDoorFc
namespace Go.Proofs.YtjhinklijopobaaDoor.Co
open Go.RowKit Go.Proofs.YtjhinklijopobaaDoor.PCoreChecks Go.Proofs.YtjhinklijopobaaDoorW.PrintWords Go.Proofs.YtjhinklijopobaaDoorW.PrintLast Go.Proofs.YtjhinklijopobaaDoorW.PrintMore
set_option linter.unusedVariables false
set_option linter.unusedSimpArgs false

/-! ### The list of a tree -/
def kstep (rec : Nat → Nat → List S28) (b : Nat) (acc : List S28 × List Int) (k : Int) : List S28 × List Int :=
  (acc.1 ++ rec k.toNat (b + acc.1.length), acc.2 ++ [((b + acc.1.length + (rec k.toNat (b + acc.1.length)).length : Nat) : Int) - 1])
/-- The lists of some kids, and the places of the kids; the list so far has b nodes. -/
def kfold (rec : Nat → Nat → List S28) (b : Nat) (ks : List Int) : List S28 × List Int := ks.foldl (kstep rec b) ([], [])
/-- The list of the tree at node i, where the list so far has b nodes. -/
def lst (t : List S28) : Nat → Nat → Nat → List S28
  | 0, _, _ => []
  | m + 1, i, b => (kfold (lst t m) b (rd_T28 t (i : Int)).f3).1 ++ [⟨(rd_T28 t (i : Int)).f0, (rd_T28 t (i : Int)).f1, (rd_T28 t (i : Int)).f2, (kfold (lst t m) b (rd_T28 t (i : Int)).f3).2, (rd_T28 t (i : Int)).f4⟩]
theorem kfold_snoc (rec : Nat → Nat → List S28) (b : Nat) (ks : List Int) (k : Int) : kfold rec b (ks ++ [k]) = kstep rec b (kfold rec b ks) k := by
  unfold kfold; rw [List.foldl_append]; rfl
theorem lst_succ (t : List S28) (m i b : Nat) (hi : i < t.length) : lst t (m + 1) i b = (kfold (lst t m) b (t[i]'hi).f3).1 ++ [⟨(t[i]'hi).f0, (t[i]'hi).f1, (t[i]'hi).f2, (kfold (lst t m) b (t[i]'hi).f3).2, (t[i]'hi).f4⟩] := by
  rw [lst, rdT_nat t i hi]
theorem kfold_take (rec : Nat → Nat → List S28) (b : Nat) (ks : List Int) (j : Nat) (hj : j < ks.length) : kfold rec b (ks.take (j + 1)) = kstep rec b (kfold rec b (ks.take j)) (ks[j]'hj) := by
  rw [List.take_succ_eq_append_getElem hj, kfold_snoc]
theorem kfold_len2 (rec : Nat → Nat → List S28) (b : Nat) (ks : List Int) : (kfold rec b ks).2.length = ks.length := by
  refine snoc_ind (P := fun ks => (kfold rec b ks).2.length = ks.length) rfl (fun l x ih => ?_) ks
  rw [kfold_snoc]
  unfold kstep
  simp [ih]
theorem lst_len {t : List S28} (ht : treeB t = true) : ∀ (m i b : Nat), i < m → i < t.length → (lst t m i b).length = cntB t i ∧ ∀ j, j ≤ (rd_T28 t (i : Int)).f3.length → (kfold (lst t (m - 1)) b ((rd_T28 t (i : Int)).f3.take j)).1.length = cntK t i j := by
  have hr := (treeB_parts ht).2.1
  intro m
  induction m with
  | zero => intro i b hi; omega
  | succ m ih =>
    intro i b him hi
    have key : ∀ j, j ≤ (t[i]'hi).f3.length → (kfold (lst t m) b ((t[i]'hi).f3.take j)).1.length = cntK t i j := by
      intro j
      induction j with
      | zero => intro _; rw [cntK_zero]; rfl
      | succ j ihj =>
        intro hj
        have hj' : j < (t[i]'hi).f3.length := by omega
        have h1 := ihj (by omega)
        have hm := badK_mem (rB_at hr i hi) (List.getElem_mem hj')
        obtain ⟨c, hc⟩ : ∃ c : Nat, (t[i]'hi).f3[j]'hj' = (c : Int) := ⟨((t[i]'hi).f3[j]'hj').toNat, by omega⟩
        rw [hc] at hm
        rw [kfold_take _ _ _ j hj', hc, cntK_succ ht hi hj' hc]
        unfold kstep
        simp only [Int.toNat_natCast, List.length_append]
        rw [h1, (ih c _ (by omega) (by omega)).1]
    rw [rdT_nat t i hi]
    refine ⟨?_, key⟩
    rw [lst_succ t m i b hi, List.length_append, List.length_singleton]
    have h1 := key _ (Nat.le_refl _)
    rw [List.take_length] at h1
    rw [h1, cntB_eq ht hi]
    omega

/-! ### A tree of the document's nodes in the heap -/
/-- A node. -/
def Nb (W : World) (b : Nat) (op n : Int) (v2 v3 v4 v5 : Value) : Prop := W.heap[b]? = some (.cells #[.int .i64 op, .int .i64 n, v2, v3, v4, v5] 76 (0, 0))
theorem Nb.cells {W : World} {b : Nat} {op n : Int} {v2 v3 v4 v5 : Value} (h : Nb W b op n v2 v3 v4 v5) : W.cell? ⟨b, 0, none⟩ = some (.int .i64 op) ∧ W.cell? ⟨b, 1, none⟩ = some (.int .i64 n) ∧ W.cell? ⟨b, 2, none⟩ = some v2 ∧ W.cell? ⟨b, 3, none⟩ = some v3 ∧ W.cell? ⟨b, 4, none⟩ = some v4 ∧ W.cell? ⟨b, 5, none⟩ = some v5 :=
  ⟨(blk_cell h 0).trans rfl, (blk_cell h 1).trans rfl, (blk_cell h 2).trans rfl, (blk_cell h 3).trans rfl, (blk_cell h 4).trans rfl, (blk_cell h 5).trans rfl⟩
theorem Nb.below {W W' : World} {b : Nat} {op n : Int} {v2 v3 v4 v5 : Value} (h : Nb W b op n v2 v3 v4 v5) (hb : Below W.heap.size W W') : Nb W' b op n v2 v3 v4 v5 := blk_below h hb
/-- A node that reads. -/
structure Rn (W : World) (b : Nat) (x : S28) (kb : List Nat) (A2 : Option Addr) (c2 : Nat) (A3 : Option Addr) (n3 c3 : Nat) (A4 : Option Addr) (c4 : Nat) (A5 : Option Addr) (c5 : Nat) : Prop where
  nb : Nb W b x.f0 x.f1 (.slice A2 x.f2.length c2) (.slice A3 n3 c3) (.slice A4 x.f4.length c4) (.slice A5 kb.length c5)
  l2 : x.f2.length ≤ c2
  g2 : Kd.C (Kd.int .i64) W A2 x.f2.length x.f2
  l4 : x.f4.length ≤ c4
  g4 : Kd.C k86 W A4 x.f4.length x.f4
  l5 : kb.length ≤ c5
  g5 : Kd.C kp W A5 kb.length kb
theorem Rn.below {W W' : World} {b : Nat} {x : S28} {kb : List Nat} {A2 A3 A4 A5 : Option Addr} {c2 n3 c3 c4 c5 : Nat} (h : Rn W b x kb A2 c2 A3 n3 c3 A4 c4 A5 c5) (hb : Below W.heap.size W W') : Rn W' b x kb A2 c2 A3 n3 c3 A4 c4 A5 c5 :=
  ⟨h.nb.below hb, h.l2, Kd.C_below h.g2 hb, h.l4, Kd.C_below h.g4 hb, h.l5, Kd.C_below h.g5 hb⟩
/-- The first n nodes of a list read. -/
def Rf (W : World) (t : List S28) (n : Nat) (ps : Nat → Nat) : Prop := ∀ i (h : i < t.length), i < n → ∃ A2 c2 A3 n3 c3 A4 c4 A5 c5, Rn W (ps i) (t[i]'h) ((t[i]'h).f3.map fun k => ps k.toNat) A2 c2 A3 n3 c3 A4 c4 A5 c5
theorem Rf.below {W W' : World} {t : List S28} {n : Nat} {ps : Nat → Nat} (h : Rf W t n ps) (hb : Below W.heap.size W W') : Rf W' t n ps := fun i hi hin => by
  obtain ⟨A2, c2, A3, n3, c3, A4, c4, A5, c5, hN⟩ := h i hi hin
  exact ⟨A2, c2, A3, n3, c3, A4, c4, A5, c5, hN.below hb⟩
/-- A node of a list that is being made: its identifiers and alternatives were there at w0. -/
def kdo (w0 : World) : Kd S28 := Kd.iso (Kd.pair (Kd.int .i64) (Kd.pair (Kd.int .i64) (Kd.pair (Kd.fixed (Kd.slice 3 (Kd.int .i64)) w0) (Kd.pair (Kd.slice 3 (Kd.int .i64)) (Kd.fixed (Kd.slice 86 k86) w0))))) (fun x : S28 => (x.f0, x.f1, x.f2, x.f3, x.f4))
theorem kdo_mkM (w0 w : World) (base : Nat) (ok : Nat → Prop) (x : S28) {A2 A4 : Option Addr} {c2 c4 : Nat} {v3 : Value} (l2 : x.f2.length ≤ c2) (g2 : Kd.C (Kd.int .i64) w0 A2 x.f2.length x.f2) (g3 : Kd.R (Kd.int .i64) 3 w base ok v3 x.f3) (l4 : x.f4.length ≤ c4) (g4 : Kd.C k86 w0 A4 x.f4.length x.f4) :
    (kdo w0).M w base ok x [.int .i64 x.f0, .int .i64 x.f1, .slice A2 x.f2.length c2, v3, .slice A4 x.f4.length c4] :=
  ⟨[.int .i64 x.f0], [.int .i64 x.f1, .slice A2 x.f2.length c2, v3, .slice A4 x.f4.length c4], rfl, rfl, [.int .i64 x.f1], [.slice A2 x.f2.length c2, v3, .slice A4 x.f4.length c4], rfl, rfl, [.slice A2 x.f2.length c2], [v3, .slice A4 x.f4.length c4], rfl, ⟨A2, c2, rfl, l2, g2⟩, [v3], [.slice A4 x.f4.length c4], rfl, ⟨v3, rfl, g3⟩, ⟨A4, c4, rfl, l4, g4⟩⟩
theorem kdo_K {w0 w : World} (hb : Below w0.heap.size w0 w) {x : S28} {cs : List Value} (h : (kdo w0).K w x cs) : k28.K w x cs := by
  obtain ⟨_, _, rfl, rfl, _, _, rfl, rfl, _, _, rfl, ⟨A2, c2, rfl, l2, g2⟩, _, _, rfl, ⟨A3, c3, rfl, l3, g3⟩, ⟨A4, c4, rfl, l4, g4⟩⟩ := h
  exact k28_mk w x l2 (Kd.C_below g2 hb) l3 g3 l4 (Kd.C_below g4 hb)
theorem info28 : (Tryd.prog.info? 28).map (fun i => (i.zero, i.size, i.bytes)) = some (some (.agg #[.int .i64 0, .int .i64 0, .slice none 0 0, .slice none 0 0, .slice none 0 0]), 5, 88) := by kernel_rfl
/-- The list that is made lies in a box. -/
structure Out (w0 W : World) (ob : Nat) (ok : Nat → Prop) (v : Value) (o : List S28) : Prop where
  bl : Below w0.heap.size w0 W
  bx : W.heap[ob]? = some (.cells #[v] 22 (0, 0))
  lo : w0.heap.size ≤ ob
  r : Kd.R (kdo w0) 28 W w0.heap.size ok v o
theorem e28o : ∀ (w0 : World) q, q ∈ 28 :: (kdo w0).E → q = 28 ∨ q = 3 := fun w0 q hq => by
  have : (28 :: (kdo w0).E : List Nat) = [28, 3] := rfl
  rw [this] at hq
  simpa using hq
theorem Out.reads {w0 W : World} {ob : Nat} {ok : Nat → Prop} {v : Value} {o : List S28} (h : Out w0 W ob ok v o) : ∃ A c, v = .slice A o.length c ∧ o.length ≤ c ∧ Kd.C k28 W A o.length o := by
  obtain ⟨A, c, rfl, hl, hr⟩ := Kd.R_reads h.r
  exact ⟨A, c, rfl, hl, Kd.C_read (d := k28) (dm := kdo w0) rfl (fun _ _ hk => kdo_K h.bl hk) hr⟩
/-- What stays as it was. -/
def Fr (W W' : World) (ob : Nat) (ok : Nat → Prop) : Prop := W.heap.size ≤ W'.heap.size ∧ ∀ k, k < W.heap.size → k ≠ ob → ¬ ok k → W'.heap[k]? = W.heap[k]?
/-- A node while its kids are listed; We is the world at the beginning. -/
structure Iw (w0 We W : World) (ob : Nat) (ok : Nat → Prop) (b : Nat) (x : S28) (s2 s4 vk v : Value) (ks : List Int) (o : List S28) : Prop where
  bl : Below w0.heap.size w0 W
  bx : W.heap[ob]? = some (.cells #[v] 22 (0, 0))
  tx : W.heap[b]? = some (.cells #[.int .i64 x.f0, .int .i64 x.f1, s2, vk, s4] 28 (0, 0))
  rk : Kd.R (Kd.int .i64) 3 W w0.heap.size (fun k => We.heap.size ≤ k) vk ks
  ro : Kd.R (kdo w0) 28 W w0.heap.size (fun k => (ok k ∧ k ≠ b) ∧ some k ≠ vk.ownBlock) v o
  fr : Fr We W ob ok
/-- What a node's listing is done with. -/
structure Ic (w0 We : World) (ob : Nat) (ok : Nat → Prop) (b : Nat) : Prop where
  lo : w0.heap.size ≤ ob
  hi : ob < We.heap.size
  le : w0.heap.size ≤ We.heap.size
  b : We.heap.size ≤ b
  ok : ∀ k, We.heap.size ≤ k → ok k
/-- What the list of node i comes to. -/
def InP (w0 : World) (t : List S28) (m i : Nat) (W : World) (ob : Nat) (ok : Nat → Prop) (o : List S28) (e : Ending) (w' : World) : Prop :=
  ∃ v', e = .returned (.int .i64 (((o.length + cntB t i : Nat) : Int) - 1)) ∧ Out w0 w' ob ok v' (o ++ lst t m i o.length) ∧ Fr W w' ob ok
theorem Iw.start {w0 We W : World} {ob : Nat} {ok : Nat → Prop} {x : S28} {s2 s4 v : Value} {o : List S28} (h : Out w0 We ob ok v o) (hW : W.heap[We.heap.size]? = some (.cells #[.int .i64 x.f0, .int .i64 x.f1, s2, .slice none 0 0, s4] 28 (0, 0))) (hb : Below We.heap.size We W) : Iw w0 We W ob ok We.heap.size x s2 s4 (.slice none 0 0) v [] o := by
  refine ⟨below_step h.bl hb, (hb.block ob (blk_lt h.bx)).trans h.bx, hW, Kd.R_nil _ _ _ _ _, ?_, hb.size, fun k hk _ _ => hb.block k hk⟩
  exact Kd.R_below (Kd.R_mono (Kd.R_bound h.r) (fun k hk => ⟨⟨hk.1, fun e => by have := hk.2.2.1; omega⟩, by simp [Value.ownBlock]⟩)) hb
theorem Fr.below {We W W' : World} {ob : Nat} {ok : Nat → Prop} (h : Fr We W ob ok) (hb : Below W.heap.size W W') : Fr We W' ob ok :=
  ⟨Nat.le_trans h.1 hb.size, fun k hk h1 h2 => (hb.block k (Nat.lt_of_lt_of_le hk h.1)).trans (h.2 k hk h1 h2)⟩
theorem Iw.lift {w0 We W W' : World} {ob b : Nat} {ok : Nat → Prop} {x : S28} {s2 s4 vk v : Value} {ks : List Int} {o : List S28} (h : Iw w0 We W ob ok b x s2 s4 vk v ks o) (hb : Below W.heap.size W W') : Iw w0 We W' ob ok b x s2 s4 vk v ks o :=
  ⟨below_step h.bl hb, (hb.block ob (blk_lt h.bx)).trans h.bx, (hb.block b (blk_lt h.tx)).trans h.tx, Kd.R_below h.rk hb, Kd.R_below h.ro hb, h.fr.below hb⟩
/-- What the list of a kid may write. -/
def okN (ok : Nat → Prop) (b : Nat) (vk : Value) : Nat → Prop := fun k => (ok k ∧ k ≠ b) ∧ some k ≠ vk.ownBlock
theorem Iw.kidOut {w0 We W : World} {ob b : Nat} {ok : Nat → Prop} {x : S28} {s2 s4 vk v : Value} {ks : List Int} {o : List S28} (h : Iw w0 We W ob ok b x s2 s4 vk v ks o) (hc : Ic w0 We ob ok b) : Out w0 W ob (okN ok b vk) v o := ⟨h.bl, h.bx, hc.lo, h.ro⟩
theorem Iw.okNew {w0 We W : World} {ob b : Nat} {ok : Nat → Prop} {x : S28} {s2 s4 vk v : Value} {ks : List Int} {o : List S28} (h : Iw w0 We W ob ok b x s2 s4 vk v ks o) (hc : Ic w0 We ob ok b) : ∀ k, W.heap.size ≤ k → okN ok b vk k := fun k hk =>
  ⟨⟨hc.ok k (Nat.le_trans h.fr.1 hk), fun e => by have := blk_lt h.tx; omega⟩, fun e => by have := Kd.R_lt h.rk k e.symm; omega⟩
theorem Iw.called {w0 We W W' : World} {ob b : Nat} {ok : Nat → Prop} {x : S28} {s2 s4 vk v v' : Value} {ks : List Int} {o o' : List S28} (h : Iw w0 We W ob ok b x s2 s4 vk v ks o) (hc : Ic w0 We ob ok b) (hO : Out w0 W' ob (okN ok b vk) v' o') (hF : Fr W W' ob (okN ok b vk)) : Iw w0 We W' ob ok b x s2 s4 vk v' ks o' := by
  have hbo : b ≠ ob := by have := hc.b; have := hc.hi; omega
  have hvk : ∀ k, vk.ownBlock = some k → W'.heap[k]? = W.heap[k]? := fun k hk => by
    obtain ⟨cells, hcl⟩ := Kd.R_typed h.rk k hk
    refine hF.2 k (Kd.R_lt h.rk k hk) (fun e => ?_) (fun h2 => h2.2 hk.symm)
    subst e
    rw [h.bx] at hcl
    injection hcl with hcl
    injection hcl with _ hcl
    exact absurd hcl (by decide)
  refine ⟨hO.bl, hO.bx, (hF.2 b (blk_lt h.tx) hbo (fun h2 => h2.1.2 rfl)).trans h.tx, ?_, hO.r, Nat.le_trans h.fr.1 hF.1, fun k hk h1 h2 => ?_⟩
  · exact Kd.R_of_own (own_move (Kd.own_of_R h.rk) hvk) h.rk.1
  · exact (hF.2 k (Nat.lt_of_lt_of_le hk h.fr.1) h1 (fun h3 => h2 h3.1.1)).trans (h.fr.2 k hk h1 h2)
theorem Iw.kid {w0 We W W' : World} {ob b : Nat} {ok : Nat → Prop} {x : S28} {s2 s4 vk vk' v : Value} {ks : List Int} {z : Int} {o : List S28} (h : Iw w0 We W ob ok b x s2 s4 vk v ks o) (hc : Ic w0 We ob ok b)
    (hr : Kd.R (Kd.int .i64) 3 W' w0.heap.size (fun k => We.heap.size ≤ k) vk' (ks ++ [z])) (hb : Below w0.heap.size w0 W') (hg : W.grownBy W' vk.ownBlock) (hat : vk'.ownBlock = vk.ownBlock ∨ ∃ b, vk'.ownBlock = some b ∧ W.heap.size ≤ b) :
    Iw w0 We (W'.setCell ⟨b, 3, none⟩ vk') ob ok b x s2 s4 vk' v (ks ++ [z]) o := by
  have hbo : b ≠ ob := by have := hc.b; have := hc.hi; omega
  have htx := blk_grown h.tx hg (Kd.R_ne h.rk h.tx (by decide))
  have hbx := blk_grown h.bx hg (Kd.R_ne h.rk h.bx (by decide))
  refine ⟨below_set hb (Nat.le_trans hc.le hc.b), blk_far hbx (fun e => hbo e.symm) _, blk_put htx 3 _ rfl, Kd.R_set hr htx (fun q hq => by rw [List.mem_singleton.1 hq]; decide) 3 _, ?_, ?_, ?_⟩
  · exact Kd.R_far (p := ⟨b, 3, none⟩) (Kd.R_after h.ro hg hat) (fun k hk => hk.1.2) _
  · have := hg.size
    have := h.fr.1
    simp only [World.setCell]
    have e : (W'.setCell ⟨b, 3, none⟩ vk').heap.size = W'.heap.size := by simp [World.setCell]
    simp only [World.setCell] at e
    omega
  · intro k hk h1 h2
    have hkb : k ≠ b := by have := hc.b; omega
    rw [Below.heap_setCell W' ⟨b, 3, none⟩ vk' k hkb, hg.block k (Nat.lt_of_lt_of_le hk h.fr.1) (fun e => ?_)]
    · exact h.fr.2 k hk h1 h2
    · have := h.rk.1 k e.symm
      omega
theorem Iw.elem {w0 We W : World} {ob b : Nat} {ok : Nat → Prop} {x : S28} {A2 A4 : Option Addr} {c2 c4 : Nat} {vk v : Value} {ks : List Int} {o : List S28} (h : Iw w0 We W ob ok b x (.slice A2 x.f2.length c2) (.slice A4 x.f4.length c4) vk v ks o) (l2 : x.f2.length ≤ c2) (g2 : Kd.C (Kd.int .i64) w0 A2 x.f2.length x.f2) (l4 : x.f4.length ≤ c4) (g4 : Kd.C k86 w0 A4 x.f4.length x.f4) :
    (kdo w0).M W w0.heap.size (fun k => vk.ownBlock = some k) ⟨x.f0, x.f1, x.f2, ks, x.f4⟩ [.int .i64 x.f0, .int .i64 x.f1, .slice A2 x.f2.length c2, vk, .slice A4 x.f4.length c4] :=
  kdo_mkM w0 W w0.heap.size _ ⟨x.f0, x.f1, x.f2, ks, x.f4⟩ l2 g2 (Kd.R_of_own (Kd.own_of_R h.rk) (fun k hk => hk)) l4 g4
theorem Iw.elemOk {w0 We W : World} {ob b : Nat} {ok : Nat → Prop} {x : S28} {s2 s4 vk v : Value} {ks : List Int} {o : List S28} (h : Iw w0 We W ob ok b x s2 s4 vk v ks o) (hc : Ic w0 We ob ok b) : ∀ k, vk.ownBlock = some k → ok k ∧ some k ≠ v.ownBlock := fun k hk => by
  refine ⟨hc.ok k (h.rk.1 k hk), fun e => ?_⟩
  exact (h.ro.1 k e.symm).2 hk.symm
theorem Iw.outR {w0 We W : World} {ob b : Nat} {ok : Nat → Prop} {x : S28} {s2 s4 vk v : Value} {ks : List Int} {o : List S28} (h : Iw w0 We W ob ok b x s2 s4 vk v ks o) : Kd.R (kdo w0) 28 W w0.heap.size ok v o := Kd.R_mono h.ro (fun k hk => hk.1.1)
theorem Iw.done {w0 We W W' : World} {ob b : Nat} {ok : Nat → Prop} {x : S28} {s2 s4 vk v v' : Value} {ks : List Int} {o o' : List S28} (h : Iw w0 We W ob ok b x s2 s4 vk v ks o) (hc : Ic w0 We ob ok b)
    (hr : Kd.R (kdo w0) 28 W' w0.heap.size ok v' o') (hb : Below w0.heap.size w0 W') (hg : W.grownBy W' v.ownBlock) :
    Out w0 (W'.setCell ⟨ob, 0, none⟩ v') ob ok v' o' ∧ Fr We (W'.setCell ⟨ob, 0, none⟩ v') ob ok := by
  have hbx := blk_grown h.bx hg (Kd.R_ne h.ro h.bx (by decide))
  refine ⟨⟨below_set hb hc.lo, blk_put hbx 0 _ rfl, hc.lo, Kd.R_set hr hbx (fun q hq => by rcases e28o w0 q hq with rfl | rfl <;> decide) 0 _⟩, ?_, ?_⟩
  · have := hg.size
    have := h.fr.1
    have e : (W'.setCell ⟨ob, 0, none⟩ v').heap.size = W'.heap.size := by simp [World.setCell]
    omega
  · intro k hk h1 h2
    rw [Below.heap_setCell W' ⟨ob, 0, none⟩ v' k h1, hg.block k (Nat.lt_of_lt_of_le hk h.fr.1) (fun e => h2 (h.ro.1 k e.symm).1.1)]
    exact h.fr.2 k hk h1 h2
theorem Iw.cells {w0 We W : World} {ob b : Nat} {ok : Nat → Prop} {x : S28} {s2 s4 vk v : Value} {ks : List Int} {o : List S28} (h : Iw w0 We W ob ok b x s2 s4 vk v ks o) : (W.cell? ⟨b, 0, none⟩ = some (.int .i64 x.f0) ∧ W.cell? ⟨b, 1, none⟩ = some (.int .i64 x.f1) ∧ W.cell? ⟨b, 2, none⟩ = some s2 ∧ W.cell? ⟨b, 3, none⟩ = some vk ∧ W.cell? ⟨b, 4, none⟩ = some s4) ∧ W.frozen? ⟨b, 3, none⟩ = false ∧ W.cell? ⟨ob, 0, none⟩ = some v ∧ W.frozen? ⟨ob, 0, none⟩ = false :=
  ⟨⟨(blk_cell h.tx 0).trans rfl, (blk_cell h.tx 1).trans rfl, (blk_cell h.tx 2).trans rfl, (blk_cell h.tx 3).trans rfl, (blk_cell h.tx 4).trans rfl⟩, blk_frozen h.tx 3, (blk_cell h.bx 0).trans rfl, blk_frozen h.bx 0⟩
theorem Iw.grownB {w0 We W W' : World} {ob b : Nat} {ok : Nat → Prop} {x : S28} {s2 s4 vk v : Value} {ks : List Int} {o : List S28} (h : Iw w0 We W ob ok b x s2 s4 vk v ks o) (hg : W.grownBy W' vk.ownBlock) : W'.cell? ⟨b, 3, none⟩ = some vk ∧ W'.frozen? ⟨b, 3, none⟩ = false := by
  have htx := blk_grown h.tx hg (Kd.R_ne h.rk h.tx (by decide))
  exact ⟨(blk_cell htx 3).trans rfl, blk_frozen htx 3⟩
theorem Iw.grownO {w0 We W W' : World} {ob b : Nat} {ok : Nat → Prop} {x : S28} {s2 s4 vk v : Value} {ks : List Int} {o : List S28} (h : Iw w0 We W ob ok b x s2 s4 vk v ks o) (hg : W.grownBy W' v.ownBlock) : W'.cell? ⟨ob, 0, none⟩ = some v ∧ W'.frozen? ⟨ob, 0, none⟩ = false := by
  have hbx := blk_grown h.bx hg (Kd.R_ne h.ro h.bx (by decide))
  exact ⟨(blk_cell hbx 0).trans rfl, blk_frozen hbx 0⟩
end Go.Proofs.YtjhinklijopobaaDoor.Co
