import Derived.Test.YtlkoihhlbhcfpaaFe
import Derived.Deep.RegionWith
namespace Go.Proofs.Ytlkoihhlbhcfpaa.Fx
open Go.RowKit Go.Proofs.Ytlkoihhlbhcfpaa.PFixityTree Go.Proofs.YtlkoihhlbhcfpaaW.PrintWords Go.Proofs.YtlkoihhlbhcfpaaW.PrintLast Go.Proofs.YtlkoihhlbhcfpaaW.PrintMore
set_option linter.unusedVariables false
set_option linter.unusedSimpArgs false

def againstB (x y : O) : Bool := x.level == y.level && (x.side != y.side || x.side == 2)
theorem againstB_iff (x y : O) : againstB x y = true ↔ against x y := by
  unfold againstB against
  simp
theorem against_calls (x y : O) (w : World) : Calls Try.prog 15 #[.agg #[.string x.op, .int .i64 x.side, .int .i64 x.level], .agg #[.string y.op, .int .i64 y.side, .int .i64 y.level]] w fun e w' => e = .returned (.bool (againstB x y)) ∧ Below w.heap.size w w' := by
  refine fixity_against.calls _ _ _ _ _ _ _ w ?_
  unfold fixity_against.f againstB
  by_cases h1 : x.level = y.level
  · rw [if_pos h1]
    by_cases h2 : x.side = y.side
    · rw [if_pos h2]; simp [h1, h2]
    · rw [if_neg h2]; simp [h1, h2]
  · rw [if_neg h1]; simp [h1]
theorem find_calls (T : List S42) (hT : T.length < 1000) (A : Option Addr) (c : Nat) (op : ByteArray) (W : World) (hC : Kd.C k42 W A T.length T) (hc : T.length ≤ c) :
    Calls Try.prog 14 #[.slice A T.length c, .string op] W fun e w' => e = .returned (.agg #[.string op, .int .i64 (fx op T).1, .int .i64 (fx op T).2]) ∧ Below W.heap.size W w' :=
  fixity_Find.calls (T.length + 1) A c T op _ _ _ W hC hc (find_f T op hT)

theorem find_O (x : O) (T : List S42) (hT : T.length < 1000) (A : Option Addr) (c : Nat) (W : World) (hx : Hid (x.side = (fx x.op T).1 ∧ x.level = (fx x.op T).2)) (hC : Kd.C k42 W A T.length T) (hc : T.length ≤ c) :
    Calls Try.prog 14 #[.slice A T.length c, .string x.op] W fun e w' => e = .returned (.agg #[.string x.op, .int .i64 x.side, .int .i64 x.level]) ∧ Below W.heap.size W w' := by
  rw [hx.out.1, hx.out.2]
  exact find_calls T hT A c x.op W hC hc
/-- A box of an operator. -/
def Box (w : World) (b : Nat) (x : O) : Prop := w.heap[b]? = some (.cells #[.string x.op, .int .i64 x.side, .int .i64 x.level] 42 (0, 0))
theorem Box.frm {base g b : Nat} {w w' : World} {x : O} (h : Box w b x) (hf : Frm base g w w') (hg : b ≠ g) : Box w' b x := hf.block b _ h hg (.inr ⟨_, 42, rfl, by decide⟩)
theorem Box.below {b : Nat} {w w' : World} {x : O} (h : Box w b x) (hb : Below w.heap.size w w') : Box w' b x := blk_below h hb
theorem Frm.to_below {W0 w w' : World} {g : Nat} (hb : Below W0.heap.size W0 w) (hg : W0.heap.size ≤ g) (h : Frm W0.heap.size g w w') : Below W0.heap.size W0 w' :=
  ⟨h.os.trans hb.os, h.tape.trans hb.tape, h.output.trans hb.output, Nat.le_trans hb.size h.size, fun i hi => by
    have h1 := hb.block i hi
    rw [Array.getElem?_eq_getElem hi] at h1 ⊢
    exact h.block i _ h1 (by omega) (.inl hi)⟩

theorem R_setg {w : World} {base g i : Nat} {tv iv ov ov' v : Value} {at_ e : Int} {xs : List S35} (h : Kd.R k35 35 w base (fun _ => True) ov xs) (hB : Bld w g tv iv at_ ov' e) : Kd.R k35 35 (w.setCell ⟨g, i, none⟩ v) base (fun _ => True) ov xs :=
  Kd.R_mono (Kd.R_far (p := ⟨g, i, none⟩) (Kd.R_types h hB (fun q hq => by rw [show (35 :: k35.E) = [35] from rfl, List.mem_singleton] at hq; rw [hq]; decide)) (fun k hk => hk.2) v) (fun _ _ => trivial)
/-- What climb leaves. -/
def ClPost (T : List S42) (l : List S29) (base g : Nat) (tv iv : Value) (m j : Nat) (least : Int) (outer : O) (xs : List S35) (w : World) (e : Ending) (w' : World) : Prop :=
  (∃ t j' ov, CL least outer (rd_T29 l ((2 * j : Nat) : Int)).f1 ((opl T l).drop j) (some (t, (opl T l).drop j')) ∧ j ≤ j' ∧ j' ≤ m ∧ t.size + 2 * j = 2 * j' + 1 ∧ e = .returned (.int .i64 ((xs.length : Int) + t.size - 1)) ∧ Bld w' g tv iv (2 * (j' : Int) + 1) ov 0 ∧ Kd.R k35 35 w' base (fun _ => True) ov (xs ++ (nodes t xs.length).map nd)) ∨
  (∃ (k at' : Int) (ov : Value) (ys : List S35), CL least outer (rd_T29 l ((2 * j : Nat) : Int)).f1 ((opl T l).drop j) none ∧ e = .returned (.int .i64 k) ∧ Bld w' g tv iv at' ov 5 ∧ Kd.R k35 35 w' base (fun _ => True) ov ys ∧ ys.length + j ≤ 500)

/-- The loop of climb: the tree t of what is read, the last operator. -/
def ClGood (T : List S42) (l : List S29) (base g : Nat) (tv iv : Value) (m j : Nat) (least : Int) (outer : O) (xs : List S35) (lb jj : Nat) (t : Fx.T) (last : O) (v7 : Value) (wr : World) : Prop :=
  j ≤ jj ∧ (∀ r, LP least outer t last ((opl T l).drop jj) r → CL least outer (rd_T29 l ((2 * j : Nat) : Int)).f1 ((opl T l).drop j) r) ∧ v7 = .int .i64 ((xs.length : Int) + t.size - 1) ∧ Box wr lb last ∧
  (∃ ov, Bld wr g tv iv (2 * (jj : Int) + 1) ov 0 ∧ Kd.R k35 35 wr base (fun _ => True) ov (xs ++ (nodes t xs.length).map nd)) ∧ t.size + 2 * j = 2 * jj + 1
def ClBad (T : List S42) (l : List S29) (base g : Nat) (tv iv : Value) (j : Nat) (least : Int) (outer : O) (v7 : Value) (wr : World) : Prop :=
  ∃ (k at' : Int) (ov : Value) (ys : List S35), CL least outer (rd_T29 l ((2 * j : Nat) : Int)).f1 ((opl T l).drop j) none ∧ v7 = .int .i64 k ∧ Bld wr g tv iv at' ov 5 ∧ Kd.R k35 35 wr base (fun _ => True) ov ys ∧ ys.length + j ≤ 500

theorem ClBad.post {T : List S42} {l : List S29} {base g : Nat} {tv iv : Value} {j : Nat} {least : Int} {outer : O} {v7 : Value} {wr w : World} {m : Nat} {xs : List S35} (h : ClBad T l base g tv iv j least outer v7 wr) {w' : World} (hb : Below wr.heap.size wr w') :
    ClPost T l base g tv iv m j least outer xs w (.returned v7) w' := by
  obtain ⟨kk, at', ov', ys, hCL, rfl, hB, hO, hys⟩ := h
  exact .inr ⟨kk, at', ov', ys, hCL, rfl, blk_below hB hb, Kd.R_below hO hb, hys⟩
theorem ClGood.post {T : List S42} {l : List S29} {base g : Nat} {tv iv : Value} {j : Nat} {least : Int} {outer last : O} {v7 : Value} {wr w : World} {m lb jj : Nat} {t : Fx.T} {xs : List S35} (h : ClGood T l base g tv iv m j least outer xs lb jj t last v7 wr) (hjj : jj ≤ m)
    (hLP : LP least outer t last ((opl T l).drop jj) (some (t, (opl T l).drop jj))) {w' : World} (hb : Below wr.heap.size wr w') :
    ClPost T l base g tv iv m j least outer xs w (.returned v7) w' := by
  obtain ⟨h1, h2, rfl, h3, ⟨ov, h4, h5⟩, h6⟩ := h
  exact .inl ⟨t, jj, ov, h2 _ hLP, h1, hjj, h6, rfl, blk_below h4 hb, Kd.R_below h5 hb⟩

theorem drop_get {l : List O} {j : Nat} {x : O} (h : l[j]? = some x) : l.drop j = x :: l.drop (j + 1) := by
  obtain ⟨hj, he⟩ := List.getElem?_eq_some_iff.1 h
  rw [← he, ← List.drop_eq_getElem_cons hj]
/-- The failure of the tests. -/
theorem ClGood.fail {T : List S42} {l : List S29} {base g : Nat} {tv iv : Value} {j : Nat} {least : Int} {outer last : O} {v7 : Value} {wr w : World} {m lb jj : Nat} {t : Fx.T} {xs : List S35} (h : ClGood T l base g tv iv m j least outer xs lb jj t last v7 wr) (hjj : jj < m) (hm : m ≤ 100) (hx : xs.length ≤ 2 * j)
    (hLP : LP least outer t last ((opl T l).drop jj) none) {w' : World} (hb : Below wr.heap.size wr w') :
    ClPost T l base g tv iv m j least outer xs w (.returned v7) (w'.setCell ⟨g, 4, none⟩ (.int .i64 5)) := by
  obtain ⟨h1, h2, rfl, h3, ⟨ov, h4, h5⟩, h6⟩ := h
  refine .inr ⟨_, _, ov, _, h2 _ hLP, rfl, blk_put (blk_below h4 hb) 4 _ rfl, R_setg (Kd.R_below h5 hb) (blk_below h4 hb), ?_⟩
  rw [List.length_append, List.length_map, nodes_length]
  omega
/-- The nodes behind one more operator. -/
theorem nodes_step (xs : List S35) (x : O) (t u : Fx.T) (xs1 : List S35) (h : xs1 = xs ++ (nodes t xs.length).map nd) : xs1 ++ (nodes u xs1.length).map nd ++ [(⟨x.op, 0, (xs.length : Int) + t.size - 1, (xs1.length : Int) + u.size - 1⟩ : S35)] = xs ++ (nodes (.node x t u) xs.length).map nd := by
  have hl : (xs1.length : Int) = xs.length + t.size := by rw [h, List.length_append, List.length_map, nodes_length]; omega
  rw [nodes, List.map_append, List.map_append, nodes_length, nodes_length, ← hl, h]
  simp [nd]
/-- The cells that a store into a box wants. -/
theorem Box.stores {w : World} {b : Nat} {x : O} (h : Box w b x) : (w.cell? ⟨b, 0, none⟩ = some (.string x.op) ∧ w.cell? ⟨b, 1, none⟩ = some (.int .i64 x.side) ∧ w.cell? ⟨b, 2, none⟩ = some (.int .i64 x.level)) ∧ (w.frozen? ⟨b, 0, none⟩ = false ∧ w.frozen? ⟨b, 1, none⟩ = false ∧ w.frozen? ⟨b, 2, none⟩ = false) :=
  ⟨⟨(blk_cell h 0).trans rfl, (blk_cell h 1).trans rfl, (blk_cell h 2).trans rfl⟩, blk_frozen h 0, blk_frozen h 1, blk_frozen h 2⟩
theorem Box.far3 {w : World} {b b' : Nat} {x : O} (h : Box w b x) (hne : b ≠ b') (u v c : Value) : Box (((w.setCell ⟨b', 0, none⟩ u).setCell ⟨b', 1, none⟩ v).setCell ⟨b', 2, none⟩ c) b x := blk_far (blk_far (blk_far h hne _) hne _) hne _
theorem Box.put3 {w : World} {b : Nat} {x y : O} (h : Box w b x) : Box (((w.setCell ⟨b, 0, none⟩ (.string y.op)).setCell ⟨b, 1, none⟩ (.int .i64 y.side)).setCell ⟨b, 2, none⟩ (.int .i64 y.level)) b y := blk_put (blk_put (blk_put h 0 _ rfl) 1 _ rfl) 2 _ rfl
/-- Three stores into a box made since. -/
theorem Frm.far3 {w w1 : World} {base g b : Nat} (h : Frm base g w w1) (hb : w.heap.size ≤ b) (u v c : Value) : Frm base g w (((w1.setCell ⟨b, 0, none⟩ u).setCell ⟨b, 1, none⟩ v).setCell ⟨b, 2, none⟩ c) := by
  have one : ∀ {w1 : World} (j : Nat) (u : Value), Frm base g w w1 → Frm base g w (w1.setCell ⟨b, j, none⟩ u) := fun {w1} j u h =>
    ⟨h.os, h.tape, h.output, by simpa [World.setCell] using h.size, fun i o hi hg hc => (Below.heap_setCell w1 ⟨b, j, none⟩ u i (by have := blk_lt hi; show i ≠ b; omega)).trans (h.block i o hi hg hc)⟩
  exact one _ _ (one _ _ (one _ _ h))
theorem R_far3 {w : World} {base b : Nat} {ov : Value} {x : O} {ys : List S35} (h : Kd.R k35 35 w base (fun _ => True) ov ys) (hb : Box w b x) (u v c : Value) : Kd.R k35 35 (((w.setCell ⟨b, 0, none⟩ u).setCell ⟨b, 1, none⟩ v).setCell ⟨b, 2, none⟩ c) base (fun _ => True) ov ys := by
  have h1 := Kd.R_types h hb (fun q hq => by rw [show (35 :: k35.E) = [35] from rfl, List.mem_singleton] at hq; rw [hq]; decide)
  exact Kd.R_mono (Kd.R_far (p := ⟨b, 2, none⟩) (Kd.R_far (p := ⟨b, 1, none⟩) (Kd.R_far (p := ⟨b, 0, none⟩) h1 (fun k hk => hk.2) u) (fun k hk => hk.2) v) (fun k hk => hk.2) c) (fun _ _ => trivial)
theorem bld_far3 {w : World} {g b : Nat} {tv iv ov : Value} {at_ e : Int} (h : Bld w g tv iv at_ ov e) (hne : b ≠ g) (u v c : Value) : Bld (((w.setCell ⟨b, 0, none⟩ u).setCell ⟨b, 1, none⟩ v).setCell ⟨b, 2, none⟩ c) g tv iv at_ ov e := blk_far (blk_far (blk_far h hne.symm _) hne.symm _) hne.symm _
/-- The three cells of a box. -/
theorem Box.cells {w : World} {b : Nat} {x : O} (h : Box w b x) : w.cell? ⟨b, 0, none⟩ = some (.string x.op) ∧ w.cell? ⟨b, 1, none⟩ = some (.int .i64 x.side) ∧ w.cell? ⟨b, 2, none⟩ = some (.int .i64 x.level) :=
  ⟨(blk_cell h 0).trans rfl, (blk_cell h 1).trans rfl, (blk_cell h 2).trans rfl⟩
/-- What a region that reads the builder keeps. -/
def Kept1 (W0 w w' : World) : Prop := Below W0.heap.size W0 w' ∧ Below w.heap.size w w'
theorem kp_step {W0 w w1 w2 : World} (h : Hid (Kept1 W0 w w1)) (hb : Below w1.heap.size w1 w2) : Hid (Kept1 W0 w w2) := Go.Lib.hid ⟨h.out.1.trans (hb.mono h.out.1.size), h.out.2.trans (hb.mono h.out.2.size)⟩
theorem kp_alloc {W0 w w1 : World} (h : Hid (Kept1 W0 w w1)) (o : Obj) : Hid (Kept1 W0 w (w1.alloc o)) := kp_step h (below_alloc (Below.refl _ _) o)
/-- The new box behind the call. -/
def ZBox (q : Nat) (wn : World) : Prop := wn.heap[q]? = some (.cells #[.string ⟨#[]⟩, .int .i64 0, .int .i64 0] 42 (0, 0))
theorem zbox {W wn : World} {q : Nat} (hbn : Below (W.alloc (.cells #[.string ⟨#[]⟩, .int .i64 0, .int .i64 0] 42)).heap.size (W.alloc (.cells #[.string ⟨#[]⟩, .int .i64 0, .int .i64 0] 42)) wn) (hq : W.heap.size = q) : Hid (ZBox q wn) :=
  Go.Lib.hid (by subst hq; exact blk_below (blk_new W _) hbn)
theorem zcells {q : Nat} {wn : World} (h : Hid (ZBox q wn)) : wn.cell? ⟨q, 0, none⟩ = some (.string ⟨#[]⟩) ∧ wn.cell? ⟨q, 1, none⟩ = some (.int .i64 0) ∧ wn.cell? ⟨q, 2, none⟩ = some (.int .i64 0) ∧
    wn.frozen? ⟨q, 0, none⟩ = false ∧ wn.frozen? ⟨q, 1, none⟩ = false ∧ wn.frozen? ⟨q, 2, none⟩ = false :=
  ⟨(blk_cell h.out 0).trans rfl, (blk_cell h.out 1).trans rfl, (blk_cell h.out 2).trans rfl, blk_frozen h.out 0, blk_frozen h.out 1, blk_frozen h.out 2⟩
theorem kp_put {W0 wr wn : World} (h : Hid (Kept1 W0 wr wn)) (hw : W0.heap.size ≤ wr.heap.size) (a b c : Value) : Hid (Kept1 W0 wr (((wn.setCell ⟨wr.heap.size, 0, none⟩ a).setCell ⟨wr.heap.size, 1, none⟩ b).setCell ⟨wr.heap.size, 2, none⟩ c)) :=
  Go.Lib.hid ⟨((h.out.1.setCell hw _).setCell hw _).setCell hw _, ((h.out.2.setCell (Nat.le_refl _) _).setCell (Nat.le_refl _) _).setCell (Nat.le_refl _) _⟩
/-- The cells that the region reads. -/
def S5 (W0 w : World) (g : Nat) (ia : Addr) (v0 v1 v2 v3 : Value) (w' : World) : Prop := w'.cell? ⟨g, 0, none⟩ = some v0 ∧ w'.cell? ⟨g, 1, none⟩ = some v1 ∧ w'.cell? ⟨g, 2, none⟩ = some v2 ∧ w'.cell? ia = some v3 ∧ Hid (Kept1 W0 w w')
theorem s5 {W0 w w' : World} {g : Nat} {ia : Addr} {v0 v1 v2 v3 : Value} (k0 : w.cell? ⟨g, 0, none⟩ = some v0) (k1 : w.cell? ⟨g, 1, none⟩ = some v1) (k2 : w.cell? ⟨g, 2, none⟩ = some v2) (k3 : w.cell? ia = some v3) (h : Hid (Kept1 W0 w w')) :
    w'.cell? ⟨g, 0, none⟩ = some v0 ∧ w'.cell? ⟨g, 1, none⟩ = some v1 ∧ w'.cell? ⟨g, 2, none⟩ = some v2 ∧ w'.cell? ia = some v3 ∧ Hid (Kept1 W0 w w') :=
  ⟨pw_cell_below h.out.2 k0, pw_cell_below h.out.2 k1, pw_cell_below h.out.2 k2, pw_cell_below h.out.2 k3, h⟩

set_option maxHeartbeats 40000000 in
set_option maxRecDepth 100000 in
theorem climb_calls (T : List S42) (hT : T.length < 1000) (l : List S29) (hlev0 : ∀ x ∈ opl T l, 0 ≤ x.level ∧ x.level ≤ 9) (m : Nat) (hm : m ≤ 100) (hl : l.length = 2 * m + 1) (A0 A1 : Option Addr) (c0 c1 : Nat) (W0 : World) (hr0 : Kd.C k42 W0 A0 T.length T) (hc0 : T.length ≤ c0) (hr1 : Kd.C k29 W0 A1 l.length l) (hc1 : l.length ≤ c1) (g : Nat) (hg : W0.heap.size ≤ g) (N : Nat) :
    ∀ (j : Nat) (least : Int) (outer : O) (ov : Value) (xs : List S35) (w : World), m < N + j → j ≤ m → xs.length ≤ 2 * j → -1 ≤ least → least ≤ 11 →
    Below W0.heap.size W0 w → Bld w g (.slice A0 T.length c0) (.slice A1 l.length c1) (2 * (j : Int)) ov 0 → Kd.R k35 35 w W0.heap.size (fun _ => True) ov xs →
    Calls Try.prog 9 #[.pointer (some ⟨g, 0, none⟩), .int .i64 least, .agg #[.string outer.op, .int .i64 outer.side, .int .i64 outer.level]] w fun e w' => ClPost T l W0.heap.size g (.slice A0 T.length c0) (.slice A1 l.length c1) m j least outer xs w e w' ∧ Frm W0.heap.size g w w' := by
  induction N with
  | zero => intro j least outer ov xs w hN hj; omega
  | succ N ih =>
  intro j least outer ov xs w hN hj hx hlo hhi hb hB hO
  have hlev := Go.Lib.hid hlev0
  have HR0 := Go.Lib.hid hr0
  have HR1 := Go.Lib.hid hr1
  have HT := Go.Lib.hid hT
  have HL := Go.Lib.hid hl
  have HB := Go.Lib.hid hB
  clear hlev0
  have HO := Go.Lib.hid hO
  have Hb := Go.Lib.hid hb
  have IH := Go.Lib.hid ih
  have HX := Go.Lib.hid hx
  have hjl : ((2 * j : Nat) : Int) < (l.length : Int) := by omega
  have hbw := Go.Lib.hid (fun o => (hb.alloc hb.size o : Below W0.heap.size W0 (w.alloc o)))
  obtain ⟨ad, rfl, x0, x1⟩ := at_T29 hr1 ((2 * j : Nat) : Int) (by omega) hjl
  have z1 := fun o => pw_cell_below (hbw.out o) x1
  have b0 := fun o => (blk_cell (blk_alloc hB o) 0).trans rfl
  have k1 : ∀ o, (w.alloc o).cell? ⟨g, 1, none⟩ = some (.slice (some ad) l.length c1) := fun o => (blk_cell (blk_alloc hB o) 1).trans rfl
  have k2 : ∀ o, (w.alloc o).cell? ⟨g, 2, none⟩ = some (.int .i64 ((2 * j : Nat) : Int)) := fun o => (blk_cell (blk_alloc hB o) 2).trans (by simp)
  rw [Int.toNat_natCast] at z1
  obtain ⟨j2, hj2⟩ : ∃ j2, j2 = 2 * j := ⟨_, rfl⟩
  rw [← hj2] at z1 k2 hjl
  have HJ2 := Go.Lib.hid hj2
  have hjl2 : (j2 : Int) ≤ 201 := by omega
  generalize hz : rd_T29 l (j2 : Int) = z at *
  have HZ := Go.Lib.hid hz
  clear hr0 hr1 hT hl hB hO hb ih hx hj2 b0 x0 x1 hz
  go_enter Try.func9, Try.ntmps9
  go_wp2_with fail
  refine wp_region_still_tail 13 (by kernel_rfl) (by kernel_rfl) ?_
  simp only [List.take_succ_cons, List.take_zero, List.drop_succ_cons, List.drop_zero]
  change wpStill _ _ (World.drew _) _ _ _
  repeat still_step
  refine wpStill_nil ?_
  change wpList _ _ _ _ _ (World.drew _)
  have hfr : Below w.heap.size w (w.alloc (.cells #[.string outer.op, .int .i64 outer.side, .int .i64 outer.level] 42)).drew := below_drew1 (below_alloc (Below.refl _ _) _)
  have hbx : Box (w.alloc (.cells #[.string outer.op, .int .i64 outer.side, .int .i64 outer.level] 42)).drew w.heap.size outer := blk_new w _
  have hfs : w.heap.size < (w.alloc (.cells #[.string outer.op, .int .i64 outer.side, .int .i64 outer.level] 42)).drew.heap.size := blk_lt hbx
  obtain ⟨ob, hob⟩ : ∃ ob, ob = w.heap.size := ⟨_, rfl⟩
  rw [← hob] at hbx hfs
  simp only [← hob]
  generalize (w.alloc (.cells #[.string outer.op, .int .i64 outer.side, .int .i64 outer.level] 42)).drew = w1 at *
  have HF1 := Go.Lib.hid hfr
  have HBX := Go.Lib.hid hbx
  have HFS := Go.Lib.hid hfs
  have HOB := Go.Lib.hid hob
  clear hfr hbx hfs hob k1 k2 z1
  go_wp2_with fail
  have hlx : xs.length ≤ 1000 := by have := HX.out; omega
  refine (put_calls W0.heap.size g w1 (.slice A0 T.length c0) (.slice (some ad) l.length c1) ov (2 * (j : Int)) 0 xs ⟨⟨#[]⟩, z.f1, 0, 0⟩ (blk_below HB.out HF1.out) (Kd.R_below HO.out HF1.out) (Nat.le_trans Hb.out.size HF1.out.size) hlx).mono ?_
  rintro e w2 ⟨rfl, ov1, hB2, hO2, hF2⟩
  have hgo : g ≠ ob := by have h1 := blk_lt HB.out; have h2 := HOB.out; omega
  have hBX2 := HBX.out.frm hF2 hgo.symm
  have q2 : w2.cell? ⟨g, 2, none⟩ = some (.int .i64 (j2 : Int)) := (blk_cell hB2 2).trans (by have := HJ2.out; subst this; simp)
  have f2 : w2.frozen? ⟨g, 2, none⟩ = false := blk_frozen hB2 2
  have o0 : ∀ v, (w2.setCell ⟨g, 2, none⟩ v).cell? ⟨ob, 0, none⟩ = some (.string outer.op) := fun v => (blk_cell (blk_far hBX2 hgo.symm v) 0).trans rfl
  have o1 : ∀ v, (w2.setCell ⟨g, 2, none⟩ v).cell? ⟨ob, 1, none⟩ = some (.int .i64 outer.side) := fun v => (blk_cell (blk_far hBX2 hgo.symm v) 1).trans rfl
  have o2 : ∀ v, (w2.setCell ⟨g, 2, none⟩ v).cell? ⟨ob, 2, none⟩ = some (.int .i64 outer.level) := fun v => (blk_cell (blk_far hBX2 hgo.symm v) 2).trans rfl
  have HB2 := Go.Lib.hid hB2
  have HO2 := Go.Lib.hid hO2
  have HF2 := Go.Lib.hid hF2
  have HBX2 := Go.Lib.hid hBX2
  have HGO := Go.Lib.hid hgo
  have hxl := Go.Lib.hid hlx
  have hxn : (xs.length : Int) ≤ 1000 := by omega
  clear hB2 hO2 hF2 hBX2 hgo hlx
  go_wp2_with fail
  have hlb : w2.heap.size ≠ ob := fun h => by have := blk_lt HBX2.out; omega
  have hlg : w2.heap.size ≠ g := fun h => by have := blk_lt HB2.out; omega
  have hB3 := Go.Lib.hid (show Bld ((w2.setCell ⟨g, 2, none⟩ (.int .i64 ((j2 : Int) + 1))).alloc (.cells #[.string outer.op, .int .i64 outer.side, .int .i64 outer.level] 42)) g (.slice A0 T.length c0) (.slice (some ad) l.length c1) (2 * (j : Int) + 1) ov1 0 from blk_alloc (blk_put HB2.out 2 _ (by rw [show (j2 : Int) = 2 * (j : Int) by have := HJ2.out; omega]; rfl)) _)
  have hBo := Go.Lib.hid (show Box ((w2.setCell ⟨g, 2, none⟩ (.int .i64 ((j2 : Int) + 1))).alloc (.cells #[.string outer.op, .int .i64 outer.side, .int .i64 outer.level] 42)) ob outer from blk_alloc (blk_far HBX2.out HGO.out.symm _) _)
  have hBl := Go.Lib.hid (show Box ((w2.setCell ⟨g, 2, none⟩ (.int .i64 ((j2 : Int) + 1))).alloc (.cells #[.string outer.op, .int .i64 outer.side, .int .i64 outer.level] 42)) w2.heap.size outer from by simpa [Box] using blk_new (w2.setCell ⟨g, 2, none⟩ (.int .i64 ((j2 : Int) + 1))) (.cells #[.string outer.op, .int .i64 outer.side, .int .i64 outer.level] 42))
  have hF3 := Go.Lib.hid (show Frm W0.heap.size g w ((w2.setCell ⟨g, 2, none⟩ (.int .i64 ((j2 : Int) + 1))).alloc (.cells #[.string outer.op, .int .i64 outer.side, .int .i64 outer.level] 42)) from (((Frm.below HF1.out).trans HF2.out).trans (Frm.set_ 2 _)).trans (Frm.below (below_alloc (Below.refl _ _) _)))
  have hO3 := Go.Lib.hid (show Kd.R k35 35 ((w2.setCell ⟨g, 2, none⟩ (.int .i64 ((j2 : Int) + 1))).alloc (.cells #[.string outer.op, .int .i64 outer.side, .int .i64 outer.level] 42)) W0.heap.size (fun _ => True) ov1 (xs ++ [⟨⟨#[]⟩, z.f1, 0, 0⟩]) from
    Kd.R_alloc (R_setg HO2.out HB2.out) _)
  generalize (w2.setCell ⟨g, 2, none⟩ (.int .i64 ((j2 : Int) + 1))).alloc (.cells #[.string outer.op, .int .i64 outer.side, .int .i64 outer.level] 42) = w3 at *
  obtain ⟨lb, hlbe⟩ : ∃ lb, lb = w2.heap.size := ⟨_, rfl⟩
  have HLW := Go.Lib.hid (show w.heap.size ≤ lb by rw [hlbe]; exact Nat.le_trans HF1.out.size HF2.out.size)
  rw [← hlbe] at hlb hlg hBl
  simp only [← hlbe]
  have HLB := Go.Lib.hid hlb
  have HLG := Go.Lib.hid hlg
  clear q2 f2 o0 o1 o2 hlbe hlb hlg
  have hstart : Hid (ClGood T l W0.heap.size g (.slice A0 T.length c0) (.slice (some ad) l.length c1) m j least outer xs lb j (.leaf z.f1) outer (.int .i64 (xs.length : Int)) w3) := Go.Lib.hid
    ⟨Nat.le_refl _, fun r h => by rw [show (rd_T29 l ((2 * j : Nat) : Int)) = z by rw [← HZ.out, HJ2.out]]; exact .mk h, by simp [Fx.T.size], hBl.out, ⟨ov1, hB3.out, hO3.out⟩, by simp [Fx.T.size]; omega⟩
  go_loopg [7] (m - j) (fun k v7 wr => Hid (Frm W0.heap.size g w wr) ∧ Hid (Box wr ob outer) ∧ ((∃ t last jj, Hid (jj + k = m) ∧ Hid (ClGood T l W0.heap.size g (.slice A0 T.length c0) (.slice (some ad) l.length c1) m j least outer xs lb jj t last v7 wr)) ∨ Hid (ClBad T l W0.heap.size g (.slice A0 T.length c0) (.slice (some ad) l.length c1) j least outer v7 wr)))
  case atStart => exact ⟨hF3, hBo, .inl ⟨_, _, j, Go.Lib.hid (by omega), hstart⟩⟩
  case round =>
    clear hstart hF3 hBo hBl hB3 hO3
    obtain ⟨hF, hBo, hst⟩ := hrel
    rcases hst with ⟨t, last, jj, hjj, hgood⟩ | hbad
    · obtain ⟨hjl, hLP, rfl, hBl, ⟨ov3, hB, hO⟩, hxt⟩ := hgood.out
      obtain ⟨i, hi⟩ : ∃ i, i = 2 * jj + 1 := ⟨_, rfl⟩
      have k0 : wr.cell? ⟨g, 0, none⟩ = some (.slice A0 T.length c0) := (blk_cell hB 0).trans rfl
      have k1 : wr.cell? ⟨g, 1, none⟩ = some (.slice (some ad) l.length c1) := (blk_cell hB 1).trans rfl
      have k2 : wr.cell? ⟨g, 2, none⟩ = some (.int .i64 (i : Int)) := (blk_cell hB 2).trans (by subst hi; simp)
      have k4 : wr.cell? ⟨g, 4, none⟩ = some (.int .i64 0) := (blk_cell hB 4).trans rfl
      have hbW := Go.Lib.hid (hF.out.to_below Hb.out hg)
      have HBl := Go.Lib.hid hBl
      have HB3 := Go.Lib.hid hB
      have HO3 := Go.Lib.hid hO
      have HXT := Go.Lib.hid hxt
      have HLP := Go.Lib.hid hLP
      have HJL := Go.Lib.hid hjl
      have HI := Go.Lib.hid hi
      clear hB hO hxt hLP hjl hBl
      by_cases hlt : jj < m
      · have hil : i < l.length := by have := HL.out; omega
        have hil' : (i : Int) < (l.length : Int) := by omega
        have hil2 : (i : Int) ≤ 201 := by omega
        obtain ⟨ad', had, x0, x1⟩ := at_T29 HR1.out (i : Int) (by omega) hil'
        obtain rfl := Option.some.inj had
        replace x0 := pw_cell_below hbW.out x0
        have g1 := opl_get (T := T) HL.out hlt
        rw [← hi] at g1
        have G1 := Go.Lib.hid g1
        rw [Int.toNat_natCast] at x0
        generalize hxo : mkO T (rd_T29 l (i : Int)) (rd_T29 l ((2 * jj + 2 : Nat) : Int)) = xo at G1
        have hop : (rd_T29 l (i : Int)).f0 = xo.op := by rw [← hxo]; rfl
        have HXO := Go.Lib.hid (show xo.side = (fx xo.op T).1 ∧ xo.level = (fx xo.op T).2 by rw [← hxo]; exact ⟨rfl, rfl⟩)
        have hxn := Go.Lib.hid (show xo.n = (rd_T29 l ((2 * jj + 2 : Nat) : Int)).f1 by rw [← hxo]; rfl)
        rw [hop] at x0
        clear hop hxo
        have HLT := Go.Lib.hid hlt
        clear x1 g1 hlt hi had hil
        go_wp2_with fail
        go_quiet (fail)
        go_wp2_with fail
        have K0 : Hid (Kept1 W0 wr (wr.drewN nq).drew) := Go.Lib.hid ⟨below_drew1 (pw_below_drewN hbW.out _), below_drew1 (pw_below_drewN (Below.refl _ _) _)⟩
        have hW0 : W0.heap.size ≤ wr.heap.size := hbW.out.size
        have HS := Go.Lib.hid (fun (w' : World) (h : Hid (Kept1 W0 wr w')) => s5 k0 k1 k2 x0 h)
        go_region_held3 (fun w' => w'.cell? ⟨g, 0, none⟩ = some (.slice A0 T.length c0) ∧ w'.cell? ⟨g, 1, none⟩ = some (.slice (some ad) l.length c1) ∧ w'.cell? ⟨g, 2, none⟩ = some (.int .i64 (i : Int)) ∧ w'.cell? (ad.add (i * 2)) = some (.string xo.op) ∧ Hid (Kept1 W0 wr w')) (first | exact HS.out _ hNew | exact HS.out _ K0 | exact HS.out _ (kp_alloc hNew _) | exact HS.out _ (kp_put hNew hW0 _ _ _) | exact HS.out _ (kp_alloc (‹_ ∧ _ ∧ _ ∧ _ ∧ Hid (Kept1 W0 wr _)›).2.2.2.2 _)) (first
          | (go_at_call 14; refine (find_O xo T HT.out A0 c0 _ HXO (Kd.C_below HR0.out (‹_ ∧ _ ∧ _ ∧ _ ∧ Hid (Kept1 W0 wr _)›).2.2.2.2.out.1) hc0).mono ?_; rintro e wn ⟨rfl, hbn⟩; have hNew := kp_step (‹_ ∧ _ ∧ _ ∧ _ ∧ Hid (Kept1 W0 wr _)›).2.2.2.2 hbn; (first | (have hZ := zbox (q := wr.heap.size) hbn rfl; obtain ⟨z0, z1, z2, z3, z4, z5⟩ := zcells hZ) | skip); clear hbn))
        case' _ =>
          have hX5 : Hid (Box (wn.alloc (.cells #[.string xo.op, .int .i64 xo.side, .int .i64 xo.level] 42)) wn.heap.size xo) := Go.Lib.hid (blk_new wn _)
          have K5 := kp_alloc hNew (.cells #[.string xo.op, .int .i64 xo.side, .int .i64 xo.level] 42)
          obtain ⟨xb, hxe⟩ : ∃ xb, xb = wn.heap.size := ⟨_, rfl⟩
          have hxb := Go.Lib.hid (show wr.heap.size ≤ xb by rw [hxe]; exact hNew.out.2.size)
          simp only [← hxe] at hX5 ⊢
          clear hxe
          clear ‹_ ∧ _ ∧ _ ∧ _ ∧ Hid (Kept1 W0 wr (wn.alloc _))›
          generalize wn.alloc (.cells #[.string xo.op, .int .i64 xo.side, .int .i64 xo.level] 42) = w5 at *
        rotate_left
        case' _ =>
          have hX5 : Hid (Box (((wn.setCell ⟨wr.heap.size, 0, none⟩ (.string xo.op)).setCell ⟨wr.heap.size, 1, none⟩ (.int .i64 xo.side)).setCell ⟨wr.heap.size, 2, none⟩ (.int .i64 xo.level)) wr.heap.size xo) := Go.Lib.hid (blk_put (blk_put (blk_put hZ.out 0 _ rfl) 1 _ rfl) 2 _ rfl)
          have K5 := kp_put hNew hW0 (.string xo.op) (.int .i64 xo.side) (.int .i64 xo.level)
          obtain ⟨xb, hxe⟩ : ∃ xb, xb = wr.heap.size := ⟨_, rfl⟩
          have hxb := Go.Lib.hid (show wr.heap.size ≤ xb by rw [hxe]; exact Nat.le_refl _)
          clear ‹_ ∧ _ ∧ _ ∧ _ ∧ Hid (Kept1 W0 wr (((wn.setCell _ _).setCell _ _).setCell _ _))›
          clear z0 z1 z2 z3 z4 z5
          generalize ((wn.setCell ⟨wr.heap.size, 0, none⟩ (.string xo.op)).setCell ⟨wr.heap.size, 1, none⟩ (.int .i64 xo.side)).setCell ⟨wr.heap.size, 2, none⟩ (.int .i64 xo.level) = w5 at *
          simp only [← hxe] at hX5 ⊢
          clear hxe
        rotate_left
        all_goals
          have hBo5 := hBo.out.below K5.out.2
          have hBl5 := HBl.out.below K5.out.2
          have hne1 : xb ≠ g := by have h1 := blk_lt HB3.out; have h2 := hxb.out; omega
          obtain ⟨c0', c1', c2'⟩ := hX5.out.cells
          have HBo5 := Go.Lib.hid hBo5
          have HBl5 := Go.Lib.hid hBl5
          have HNE1 := Go.Lib.hid hne1
          have HNE2 := Go.Lib.hid (show xb ≠ lb by have h1 := blk_lt HBl.out; have h2 := hxb.out; omega)
          have HDR := Go.Lib.hid (drop_get G1.out)
          clear hBo5 hBl5 hne1 k0 k1 k2 k4 x0
          by_cases hlow : xo.level < least
          · have hl0 : decide (xo.level < least) = true := decide_eq_true hlow
            have hend := Go.Lib.hid (show LP least outer t last ((opl T l).drop jj) (some (t, (opl T l).drop jj)) by rw [HDR.out]; exact .low hlow)
            have hjm := Go.Lib.hid (show jj ≤ m from Nat.le_of_lt HLT.out)
            clear hlow
            go_wp2_with fail
            go_ret
            exact ⟨hgood.out.post hjm.out hend.out K5.out.2, hF.out.trans (Frm.below K5.out.2)⟩
          · have hl0 : decide (xo.level < least) = false := decide_eq_false hlow
            have HLOW := Go.Lib.hid (show least ≤ xo.level by omega)
            clear hlow
            obtain ⟨d0, d1, d2⟩ := HBo5.out.cells
            go_wp2_with fail
            refine (against_calls xo outer w5).mono ?_
            rintro e w6 ⟨rfl, hb6⟩
            have K6 := kp_step K5 hb6
            have hX6 := Go.Lib.hid (hX5.out.below hb6)
            have hBo6 := Go.Lib.hid (HBo5.out.below hb6)
            have hBl6 := Go.Lib.hid (HBl5.out.below hb6)
            clear hb6 c0' c1' c2' d0 d1 d2
            by_cases ha1 : againstB xo outer = true
            · rw [ha1]
              have hend := Go.Lib.hid (show LP least outer t last ((opl T l).drop jj) none by rw [HDR.out]; exact .bad HLOW.out (.inl ((againstB_iff _ _).1 ha1)))
              have k4 : w6.cell? ⟨g, 4, none⟩ = some (.int .i64 0) := (blk_cell (blk_below HB3.out K6.out.2) 4).trans rfl
              have f4 : w6.frozen? ⟨g, 4, none⟩ = false := blk_frozen (blk_below HB3.out K6.out.2) 4
              clear ha1
              go_wp2_with fail
              go_ret
              exact ⟨hgood.out.fail HLT.out hm HX.out hend.out K6.out.2, (hF.out.trans (Frm.below K6.out.2)).trans (Frm.set_ _ _)⟩
            · have ha1' : againstB xo outer = false := by simpa using ha1
              rw [ha1']
              have HNA1 := Go.Lib.hid (show ¬ against xo outer from fun h => ha1 ((againstB_iff _ _).2 h))
              clear ha1 ha1'
              obtain ⟨e0, e1, e2⟩ := hX6.out.cells
              obtain ⟨f0, f1, f2⟩ := hBl6.out.cells
              go_wp2_with fail
              refine (against_calls xo last w6).mono ?_
              rintro e w7 ⟨rfl, hb7⟩
              have K7 := kp_step K6 hb7
              have hX7 := Go.Lib.hid (hX6.out.below hb7)
              have hBo7 := Go.Lib.hid (hBo6.out.below hb7)
              have hBl7 := Go.Lib.hid (hBl6.out.below hb7)
              have HB7 := Go.Lib.hid (blk_below HB3.out K7.out.2)
              clear hb7 e0 e1 e2 f0 f1 f2
              by_cases ha2 : againstB xo last = true
              · rw [ha2]
                have hend := Go.Lib.hid (show LP least outer t last ((opl T l).drop jj) none by rw [HDR.out]; exact .bad HLOW.out (.inr ((againstB_iff _ _).1 ha2)))
                have k4 : w7.cell? ⟨g, 4, none⟩ = some (.int .i64 0) := (blk_cell HB7.out 4).trans rfl
                have f4 : w7.frozen? ⟨g, 4, none⟩ = false := blk_frozen HB7.out 4
                clear ha2
                go_wp2_with fail
                go_ret
                exact ⟨hgood.out.fail HLT.out hm HX.out hend.out K7.out.2, (hF.out.trans (Frm.below K7.out.2)).trans (Frm.set_ _ _)⟩
              · have ha2' : againstB xo last = false := by simpa using ha2
                rw [ha2']
                have HNA2 := Go.Lib.hid (show ¬ against xo last from fun h => ha2 ((againstB_iff _ _).2 h))
                clear ha2 ha2'
                have k2 : w7.cell? ⟨g, 2, none⟩ = some (.int .i64 (i : Int)) := (blk_cell HB7.out 2).trans (by have := HI.out; subst this; simp)
                have f2 : w7.frozen? ⟨g, 2, none⟩ = false := blk_frozen HB7.out 2
                have hlv := hlev.out xo (List.mem_of_getElem? G1.out)
                have e0 : ∀ v, (w7.setCell ⟨g, 2, none⟩ v).cell? ⟨xb, 0, none⟩ = some (.string xo.op) := fun v => (blk_cell (blk_far hX7.out HNE1.out v) 0).trans rfl
                have e1 : ∀ v, (w7.setCell ⟨g, 2, none⟩ v).cell? ⟨xb, 1, none⟩ = some (.int .i64 xo.side) := fun v => (blk_cell (blk_far hX7.out HNE1.out v) 1).trans rfl
                have e2 : ∀ v, (w7.setCell ⟨g, 2, none⟩ v).cell? ⟨xb, 2, none⟩ = some (.int .i64 xo.level) := fun v => (blk_cell (blk_far hX7.out HNE1.out v) 2).trans rfl
                have hlv1 : 0 ≤ xo.level := hlv.1
                have hlv2 : xo.level ≤ 9 := hlv.2
                clear hlv
                have hB8 := Go.Lib.hid (show Bld (w7.setCell ⟨g, 2, none⟩ (.int .i64 ((i : Int) + 1))) g (.slice A0 T.length c0) (.slice (some ad) l.length c1) (2 * ((jj + 1 : Nat) : Int)) ov3 0 from blk_put HB7.out 2 _ (by rw [show (i : Int) + 1 = 2 * ((jj + 1 : Nat) : Int) by have := HI.out; omega]; rfl))
                have hO8 := Go.Lib.hid (show Kd.R k35 35 (w7.setCell ⟨g, 2, none⟩ (.int .i64 ((i : Int) + 1))) W0.heap.size (fun _ => True) ov3 (xs ++ (nodes t xs.length).map nd) from R_setg (Kd.R_below HO3.out K7.out.2) HB7.out)
                have hW8 := Go.Lib.hid (show Below W0.heap.size W0 (w7.setCell ⟨g, 2, none⟩ (.int .i64 ((i : Int) + 1))) from K7.out.1.setCell (p := ⟨g, 2, none⟩) hg _)
                have hF8 := Go.Lib.hid (show Frm W0.heap.size g w (w7.setCell ⟨g, 2, none⟩ (.int .i64 ((i : Int) + 1))) from (hF.out.trans (Frm.below K7.out.2)).trans (Frm.set_ _ _))
                have hX8 := Go.Lib.hid (show Box (w7.setCell ⟨g, 2, none⟩ (.int .i64 ((i : Int) + 1))) xb xo from blk_far hX7.out HNE1.out _)
                have hBo8 := Go.Lib.hid (show Box (w7.setCell ⟨g, 2, none⟩ (.int .i64 ((i : Int) + 1))) ob outer from blk_far hBo7.out HGO.out.symm _)
                have hBl8 := Go.Lib.hid (show Box (w7.setCell ⟨g, 2, none⟩ (.int .i64 ((i : Int) + 1))) lb last from blk_far hBl7.out HLG.out _)
                have hlen : (xs ++ (nodes t xs.length).map nd).length = xs.length + t.size := by rw [List.length_append, List.length_map, nodes_length]
                have HLEN := Go.Lib.hid hlen
                have hXL : Hid (xs.length + t.size ≤ 201) := Go.Lib.hid (by have := HXT.out; have := HLT.out; have := HX.out; omega)
                have hsz := Go.Lib.hid (size_pos t)
                clear hlen
                have hcase : ((xo.side == 1) = true ∧ next xo = xo.level) ∨ ((xo.side == 1) = false ∧ next xo = xo.level + 1) := by
                  by_cases hsd : xo.side = 1
                  · exact .inl ⟨beq_iff_eq.mpr hsd, if_pos hsd⟩
                  · exact .inr ⟨beq_eq_false_iff_ne.mpr hsd, if_neg hsd⟩
                rcases hcase with ⟨hs0, hnx⟩ | ⟨hs0, hnx⟩
                case' inl => have HCV := Go.Lib.hid (fun n L r (h : CL xo.level xo n L r) => (by rw [hnx]; exact h : CL (next xo) xo n L r))
                case' inr => have HCV := Go.Lib.hid (fun n L r (h : CL (xo.level + 1) xo n L r) => (by rw [hnx]; exact h : CL (next xo) xo n L r))
                all_goals
                  clear hnx
                  go_wp2_with fail
                  generalize w7.setCell ⟨g, 2, none⟩ (.int .i64 ((i : Int) + 1)) = w8 at *
                  clear e0 e1 e2 k2 f2
                  refine (IH.out (jj + 1) _ xo ov3 _ w8 (by have := HJL.out; omega) HLT.out (by rw [HLEN.out]; have := HXT.out; have := HX.out; omega) (by omega) (by omega) hW8.out hB8.out hO8.out).mono ?_
                  rintro e w9 ⟨hcp, hf9⟩
                  have hF9 := Go.Lib.hid (hF8.out.trans hf9)
                  have hX9 := Go.Lib.hid (hX8.out.frm hf9 HNE1.out)
                  have hBo9 := Go.Lib.hid (hBo8.out.frm hf9 HGO.out.symm)
                  have hBl9 := Go.Lib.hid (hBl8.out.frm hf9 HLG.out)
                  clear hf9
                  obtain ⟨c0', c1', c2'⟩ := hX9.out.cells
                  rcases hcp with ⟨u, j', ov4, hCL, hj1, hj2, hsz2, rfl, hB9, hO9⟩ | ⟨kk, at', ov4, ys, hCL, rfl, hB9, hO9, hys⟩
                  · have HB9 := Go.Lib.hid (show Bld w9.drew g (.slice A0 T.length c0) (.slice (some ad) l.length c1) (2 * (j' : Int) + 1) ov4 0 from hB9)
                    have HO9 := Go.Lib.hid (show Kd.R k35 35 w9.drew W0.heap.size (fun _ => True) ov4 _ from Kd.R_drew hO9)
                    have hX9d := Go.Lib.hid (show Box w9.drew xb xo from hX9.out)
                    have hBl9d := Go.Lib.hid (show Box w9.drew lb last from hBl9.out)
                    have hBo9d := Go.Lib.hid (show Box w9.drew ob outer from hBo9.out)
                    have HP1 := Go.Lib.hid (show W0.heap.size ≤ w9.drew.heap.size from Nat.le_trans Hb.out.size hF9.out.size)
                    have HCL := Go.Lib.hid (HCV.out _ _ _ hCL)
                    have HJ1 := Go.Lib.hid hj1
                    have HJ3 := Go.Lib.hid hj2
                    have HSZ2 := Go.Lib.hid hsz2
                    have hus := size_pos u
                    have HP2 := Go.Lib.hid (show (xs ++ (nodes t xs.length).map nd ++ (nodes u (xs ++ (nodes t xs.length).map nd).length).map nd).length = xs.length + t.size + u.size by rw [List.length_append, HLEN.out, List.length_map, nodes_length])
                    have HP3 := Go.Lib.hid (show (xs ++ (nodes t xs.length).map nd ++ (nodes u (xs ++ (nodes t xs.length).map nd).length).map nd).length ≤ 1000 by rw [HP2.out]; have := hXL.out; omega)
                    have HUS := Go.Lib.hid (show u.size ≤ 201 by omega)
                    clear hB9 hO9 hCL hj1 hj2 hsz2 hus
                    have HNS := Go.Lib.hid (nodes_step xs xo t u _ rfl)
                    have hxl2 : ((xs ++ (nodes t xs.length).map nd).length : Int) ≤ 201 := by rw [HLEN.out]; have := hXL.out; omega
                    have hus2 : (u.size : Int) ≤ 201 := by have := HUS.out; omega
                    generalize hrt : ((xs ++ (nodes t xs.length).map nd).length : Int) + u.size - 1 = rt at HNS ⊢
                    have HRT := Go.Lib.hid hrt
                    clear hxl2 hus2 hrt
                    generalize hy2 : xs ++ (nodes t xs.length).map nd ++ (nodes u (xs ++ (nodes t xs.length).map nd).length).map nd = ys2 at HO9 HP2 HP3 HNS
                    clear hy2
                    go_wp2_with fail
                    go_region_held3 (fun w' => w'.cell? ⟨xb, 0, none⟩ = some (.string xo.op) ∧ w'.cell? ⟨xb, 1, none⟩ = some (.int .i64 xo.side) ∧ w'.cell? ⟨xb, 2, none⟩ = some (.int .i64 xo.level)) (first | exact hNewS.out.cells | exact hNew.out.cells | exact hX9d.out.cells | exact (hNew.out.far3 HNE2.out _ _ _).cells) (first
                      | (go_at_call 13; refine (put_calls W0.heap.size g _ _ _ ov4 (2 * (j' : Int) + 1) 0 _ ⟨xo.op, 0, (xs.length : Int) + t.size - 1, rt⟩ HB9.out HO9.out HP1.out HP3.out).mono ?_; rintro e wn ⟨rfl, ov5, hBn, hOn, hFn⟩; have hNew := Go.Lib.hid (hX9d.out.frm hFn HNE1.out); have hBln := Go.Lib.hid (hBl9d.out.frm hFn HLG.out); have hBon := Go.Lib.hid (hBo9d.out.frm hFn HGO.out.symm); have HBn := Go.Lib.hid hBn; have HOn := Go.Lib.hid hOn; have HFn := Go.Lib.hid hFn; clear hBn hOn hFn; obtain ⟨⟨s0, s1, s2⟩, ⟨s3, s4, s5⟩⟩ := hBln.out.stores))
                    go_wp2_with fail
                    go_roundg (m - j')
                    case measure => have := hjj.out; have := HLT.out; have := HJ1.out; omega
                    case rel =>
                      refine ⟨Go.Lib.hid ((hF9.out.trans ((Frm.below (below_drew1 (Below.refl _ _))).trans HFn.out)).far3 HLW.out _ _ _), Go.Lib.hid (hBon.out.far3 HLB.out.symm _ _ _), .inl ⟨.node xo t u, xo, j', Go.Lib.hid (by have := HJ3.out; omega), Go.Lib.hid ⟨by have := HJL.out; have := HJ1.out; omega, fun r h => HLP.out r (by rw [HDR.out]; exact .step HLOW.out HNA1.out HNA2.out (by rw [hxn.out]; exact HCL.out) h), ?_, hBln.out.put3, ⟨ov5, bld_far3 HBn.out HLG.out _ _ _, ?_⟩, ?_⟩⟩⟩
                      · rw [HP2.out]; simp only [Fx.T.size]; congr 1; omega
                      · rw [← HNS.out]; exact R_far3 HOn.out hBln.out _ _ _
                      · have := HXT.out; have := HSZ2.out; simp only [Fx.T.size]; omega
                  · have HB9 := Go.Lib.hid (show Bld w9.drew g (.slice A0 T.length c0) (.slice (some ad) l.length c1) at' ov4 5 from hB9)
                    have HO9 := Go.Lib.hid (show Kd.R k35 35 w9.drew W0.heap.size (fun _ => True) ov4 _ from Kd.R_drew hO9)
                    have hX9d := Go.Lib.hid (show Box w9.drew xb xo from hX9.out)
                    have hBl9d := Go.Lib.hid (show Box w9.drew lb last from hBl9.out)
                    have hBo9d := Go.Lib.hid (show Box w9.drew ob outer from hBo9.out)
                    have HP1 := Go.Lib.hid (show W0.heap.size ≤ w9.drew.heap.size from Nat.le_trans Hb.out.size hF9.out.size)
                    have HCL := Go.Lib.hid (HCV.out _ _ _ hCL)
                    have HYS := Go.Lib.hid hys
                    have HP3 := Go.Lib.hid (show ys.length ≤ 1000 by omega)
                    clear hB9 hO9 hCL hys
                    go_wp2_with fail
                    go_region_held3 (fun w' => w'.cell? ⟨xb, 0, none⟩ = some (.string xo.op) ∧ w'.cell? ⟨xb, 1, none⟩ = some (.int .i64 xo.side) ∧ w'.cell? ⟨xb, 2, none⟩ = some (.int .i64 xo.level)) (first | exact hNew.out.cells | exact hX9d.out.cells | exact (hNew.out.far3 HNE2.out _ _ _).cells) (first
                      | (go_at_call 13; refine (put_calls W0.heap.size g _ _ _ ov4 at' 5 ys ⟨xo.op, 0, (xs.length : Int) + t.size - 1, kk⟩ HB9.out HO9.out HP1.out HP3.out).mono ?_; rintro e wn ⟨rfl, ov5, hBn, hOn, hFn⟩; have hNew := Go.Lib.hid (hX9d.out.frm hFn HNE1.out); have hBln := Go.Lib.hid (hBl9d.out.frm hFn HLG.out); have hBon := Go.Lib.hid (hBo9d.out.frm hFn HGO.out.symm); have HBn := Go.Lib.hid hBn; have HOn := Go.Lib.hid hOn; have HFn := Go.Lib.hid hFn; clear hBn hOn hFn; obtain ⟨⟨s0, s1, s2⟩, ⟨s3, s4, s5⟩⟩ := hBln.out.stores))
                    go_wp2_with fail
                    go_roundg (gk - 1)
                    case measure => have := hjj.out; have := HLT.out; omega
                    case rel =>
                      refine ⟨Go.Lib.hid ((hF9.out.trans ((Frm.below (below_drew1 (Below.refl _ _))).trans HFn.out)).far3 HLW.out _ _ _), Go.Lib.hid (hBon.out.far3 HLB.out.symm _ _ _), .inr (Go.Lib.hid ⟨_, at', ov5, _, HLP.out none (by rw [HDR.out]; exact .deep HLOW.out HNA1.out HNA2.out (by rw [hxn.out]; exact HCL.out)), rfl, bld_far3 HBn.out HLG.out _ _ _, R_far3 HOn.out hBln.out _ _ _, ?_⟩)⟩
                      rw [List.length_append, List.length_singleton]
                      have := HYS.out; have := HJL.out
                      omega
      · have hil' : ¬ (i : Int) < (l.length : Int) := by have := HL.out; omega
        have hend := Go.Lib.hid (show LP least outer t last ((opl T l).drop jj) (some (t, (opl T l).drop jj)) by
          rw [List.drop_eq_nil_of_le (by rw [opl_length HL.out]; omega)]
          exact .nil)
        have hjm := Go.Lib.hid (show jj ≤ m by have := hjj.out; omega)
        clear hlt hi
        go_wp2_with fail
        go_quiet (fail)
        go_wp2_with fail
        go_ret
        exact ⟨hgood.out.post hjm.out hend.out (pw_below_drewN (Below.refl _ _) _), hF.out.trans (Frm.below (pw_below_drewN (Below.refl _ _) _))⟩
    · obtain ⟨kk, at', ov', ys, hCL, rfl, hB, hO, hys⟩ := hbad.out
      have k4 : wr.cell? ⟨g, 4, none⟩ = some (.int .i64 5) := (blk_cell hB 4).trans rfl
      clear hB hO hys hCL
      go_wp2_with fail
      go_quiet (fail)
      go_wp2_with fail
      go_ret
      exact ⟨hbad.out.post (pw_below_drewN (Below.refl _ _) _), hF.out.trans (Frm.below (pw_below_drewN (Below.refl _ _) _))⟩
end Go.Proofs.Ytlkoihhlbhcfpaa.Fx
