import Derived.Lib.Hide
import Derived.Test.YtjhinklijopobaaDoorPCoreChecksx0
import Derived.Deep.CutRange
import Derived.Deep.DeepCutAuto
import Derived.Deep.QuietTactic
import Derived.BigQuiet
import Derived.RegionTactic
import Derived.BigRegion
import Derived.IntWalk
import Derived.Test.YtjhinklijopobaaDoorPCoreChecksx13
namespace Go.Proofs.YtjhinklijopobaaDoor.Co
open Go.RowKit Go.Proofs.YtjhinklijopobaaDoor.PCoreChecks Go.Proofs.YtjhinklijopobaaDoorW.PrintWords Go.Proofs.YtjhinklijopobaaDoorW.PrintLast Go.Proofs.YtjhinklijopobaaDoorW.PrintMore
set_option linter.unusedVariables false
set_option linter.unusedSimpArgs false

theorem rd_nat (l : List Int) (i : Nat) (hi : i < l.length) : rd l (i : Int) = l[i] := by
  unfold rd
  rw [Int.toNat_natCast, List.getD_eq_getElem?_getD, List.getElem?_eq_getElem hi]; rfl
theorem rdT_nat (l : List S28) (i : Nat) (hi : i < l.length) : rd_T28 l (i : Int) = l[i]'hi := by
  unfold rd_T28
  rw [Int.toNat_natCast, List.getD_eq_getElem?_getD, List.getElem?_eq_getElem hi]; rfl
/-- What a function with rounds comes to. -/
def Evs {α : Type} (f : Nat → Option α) (r : α) : Prop := ∃ K, ∀ k, K ≤ k → f k = some r
theorem Evs.now {α : Type} {f : Nat → Option α} {r : α} (h : ∀ k, f (k + 1) = some r) : Evs f r := ⟨1, fun k hk => by obtain ⟨m, rfl⟩ : ∃ m, k = m + 1 := ⟨k - 1, by omega⟩; exact h m⟩
theorem Evs.step {α : Type} {f g : Nat → Option α} {r : α} (hg : Evs g r) (h : ∀ k, f (k + 1) = g k) : Evs f r := by
  obtain ⟨K, hK⟩ := hg
  refine ⟨K + 1, fun k hk => ?_⟩
  obtain ⟨m, rfl⟩ : ∃ m, k = m + 1 := ⟨k - 1, by omega⟩
  rw [h m]
  exact hK m (by omega)
theorem Evs.same {α : Type} {f g : Nat → Option α} {r : α} (hg : Evs g r) (h : ∀ k, f k = g k) : Evs f r := by
  obtain ⟨K, hK⟩ := hg
  exact ⟨K, fun k hk => by rw [h k]; exact hK k hk⟩
theorem Evs.both {α β : Type} {f : Nat → Option α} {g : Nat → Option β} {r : α} {s : β} (h1 : Evs f r) (h2 : Evs g s) : ∃ k, f k = some r ∧ g k = some s := by
  obtain ⟨K, hK⟩ := h1
  obtain ⟨L, hL⟩ := h2
  exact ⟨max K L, hK _ (Nat.le_max_left _ _), hL _ (Nat.le_max_right _ _)⟩
/-- The greatest depth of some kids. -/
def mxk (d : List Int) (ks : List Int) (m : Int) : Int := ks.foldl (fun m x => if m < rd d x then rd d x else m) m
/-- The depths of the nodes. -/
def deps (t : List S28) : List Int := t.foldl (fun d n => d ++ [mxk d n.f3 0 + 1]) []
theorem deps_snoc (t : List S28) (n : S28) : deps (t ++ [n]) = deps t ++ [mxk (deps t) n.f3 0 + 1] := by simp [deps]
theorem snoc_ind {α : Type} {P : List α → Prop} (h0 : P []) (h1 : ∀ l x, P l → P (l ++ [x])) (l : List α) : P l := by
  have h : ∀ n (l : List α), l.length = n → P l := by
    intro n
    induction n with
    | zero => intro l hl; rw [List.eq_nil_of_length_eq_zero hl]; exact h0
    | succ n ih =>
      intro l hl
      have hne : l ≠ [] := by rintro rfl; simp at hl
      rw [← List.dropLast_concat_getLast hne]
      exact h1 _ _ (ih _ (by simp [hl]))
  exact h _ l rfl
theorem deps_len (t : List S28) : (deps t).length = t.length := by
  refine snoc_ind (P := fun t => (deps t).length = t.length) rfl (fun t n ih => ?_) t
  rw [deps_snoc]; simp [ih]
theorem mxk_snoc (d ks : List Int) (x m : Int) : mxk d (ks ++ [x]) m = if mxk d ks m < rd d x then rd d x else mxk d ks m := by
  unfold mxk; rw [List.foldl_append]; rfl
theorem rd_bound {d : List Int} {B : Int} (h0 : 0 ≤ B) (h : ∀ y ∈ d, 0 ≤ y ∧ y ≤ B) (x : Int) : 0 ≤ rd d x ∧ rd d x ≤ B := by
  unfold rd
  rw [List.getD_eq_getElem?_getD]
  cases e : d[x.toNat]? with
  | none => simpa using h0
  | some y => simpa using h y (List.mem_of_getElem? e)
theorem mxk_bound {d : List Int} {B : Int} (h0 : 0 ≤ B) (h : ∀ y ∈ d, 0 ≤ y ∧ y ≤ B) (ks : List Int) : 0 ≤ mxk d ks 0 ∧ mxk d ks 0 ≤ B := by
  refine snoc_ind (P := fun ks => 0 ≤ mxk d ks 0 ∧ mxk d ks 0 ≤ B) ⟨Int.le_refl 0, h0⟩ (fun ks x ih => ?_) ks
  rw [mxk_snoc]
  split
  · exact rd_bound h0 h x
  · exact ih
theorem deps_bound (t : List S28) : ∀ y ∈ deps t, 0 ≤ y ∧ y ≤ (t.length : Int) := by
  refine snoc_ind (P := fun t => ∀ y ∈ deps t, 0 ≤ y ∧ y ≤ (t.length : Int)) (by simp [deps]) (fun t n ih => ?_) t
  intro y hy
  rw [deps_snoc, List.mem_append, List.mem_singleton] at hy
  rw [List.length_append, List.length_singleton]
  rcases hy with hy | rfl
  · have := ih y hy; omega
  · have := mxk_bound (by omega) ih n.f3; omega
/-- The array of depths in the round of node k, when the depth so far is m. -/
def dar (t : List S28) (k : Nat) (m : Int) (n : Nat) : List Int := deps (t.take k) ++ m :: List.replicate (n - k - 1) 0
theorem dar_len (t : List S28) (k n : Nat) (m : Int) (hk : k < n) (ht : k ≤ t.length) : (dar t k m n).length = n := by
  simp [dar, deps_len]; omega
theorem dar_old (t : List S28) (k n : Nat) (m : Int) (x : Int) (h0 : 0 ≤ x) (h1 : x < k) (ht : k ≤ t.length) : (dar t k m n)[x.toNat]? = some (rd (deps (t.take k)) x) := by
  have hl : x.toNat < (deps (t.take k)).length := by rw [deps_len, List.length_take]; omega
  rw [dar, List.getElem?_append_left hl, List.getElem?_eq_getElem hl]
  unfold rd
  rw [List.getD_eq_getElem?_getD, List.getElem?_eq_getElem hl]; rfl
theorem dar_at (t : List S28) (k n : Nat) (m : Int) (ht : k ≤ t.length) : (dar t k m n)[k]? = some m := by
  have hl : (deps (t.take k)).length = k := by rw [deps_len, List.length_take]; omega
  rw [dar, List.getElem?_append_right (by omega), hl, Nat.sub_self]; rfl
theorem dar_set (t : List S28) (k n : Nat) (m m' : Int) (ht : k ≤ t.length) : (dar t k m n).set k m' = dar t k m' n := by
  have hl : (deps (t.take k)).length = k := by rw [deps_len, List.length_take]; omega
  rw [dar, List.set_append_right _ _ (by omega), hl, Nat.sub_self]; rfl
theorem dar_next (t : List S28) (k n : Nat) (ht : k < t.length) (hk : k + 1 < n) (h : (t[k]).f3 = (t[k]).f3) : dar t k (mxk (deps (t.take k)) (t[k]).f3 0 + 1) n = dar t (k + 1) 0 n := by
  unfold dar
  rw [List.take_succ_eq_append_getElem ht, deps_snoc, List.append_assoc]
  congr 1
  have : n - k - 1 = (n - (k + 1) - 1) + 1 := by omega
  rw [this, List.replicate_succ]; rfl
theorem dar_last (t : List S28) (k n : Nat) (ht : k < t.length) (hk : k + 1 = n) : dar t k (mxk (deps (t.take k)) (t[k]).f3 0 + 1) n = deps (t.take (k + 1)) := by
  unfold dar
  rw [List.take_succ_eq_append_getElem ht, deps_snoc]
  have : n - k - 1 = 0 := by omega
  rw [this]; rfl
theorem dar_start (t : List S28) (n : Nat) (hn : 0 < n) : List.replicate n 0 = dar t 0 0 n := by
  obtain ⟨m, rfl⟩ : ∃ m, n = m + 1 := ⟨n - 1, by omega⟩
  simp [dar, deps, List.replicate_succ]
/-- How often each number below n stands in a row. -/
def Uf (cs : List Int) (n : Nat) : List Int := (List.range n).map fun (k : Nat) => ((cs.count (k : Int) : Nat) : Int)
theorem Uf_len (cs : List Int) (n : Nat) : (Uf cs n).length = n := by simp [Uf]
theorem Uf_at (cs : List Int) (n k : Nat) (h : k < n) : (Uf cs n)[k]? = some ((cs.count (k : Int) : Nat) : Int) := by
  simp [Uf, h]
theorem Uf_nil (n : Nat) : Uf [] n = List.replicate n 0 := by
  apply List.ext_getElem <;> simp [Uf]
theorem Uf_snoc (cs : List Int) (n k : Nat) (h : k < n) : (Uf cs n).set k (((cs.count (k : Int) : Nat) : Int) + 1) = Uf (cs ++ [(k : Int)]) n := by
  apply List.ext_getElem
  · simp [Uf]
  · intro i h1 h2
    rw [List.length_set, Uf_len] at h1
    rw [List.getElem_set]
    simp only [Uf, List.getElem_map, List.getElem_range, List.count_append, List.count_singleton]
    by_cases e : k = i
    · subst e; simp
    · rw [if_neg e]
      have : ¬ ((k : Int) == (i : Int)) = true := by simp; omega
      rw [if_neg this]; simp

/-- A block that holds just these numbers. -/
def IA (W : World) (g : Nat) (xs : List Int) : Prop := W.heap[g]? = some (.cells (xs.map (Value.int .i64)).toArray 3 (0, 0))
theorem IA.cell {W : World} {g : Nat} {xs : List Int} (h : IA W g xs) (j : Nat) {x : Int} (hx : xs[j]? = some x) : W.cell? ⟨g, j, none⟩ = some (.int .i64 x) := by
  rw [blk_cell h]
  simp [hx]
theorem IA.frozen {W : World} {g : Nat} {xs : List Int} (h : IA W g xs) (j : Nat) : W.frozen? ⟨g, j, none⟩ = false := blk_frozen h j
theorem IA.put {W : World} {g : Nat} {xs : List Int} (h : IA W g xs) (j : Nat) (x : Int) : IA (W.setCell ⟨g, j, none⟩ (.int .i64 x)) g (xs.set j x) := by
  refine blk_put h j _ ?_
  simp [List.map_set]
theorem IA.below {W W' : World} {g : Nat} {xs : List Int} (h : IA W g xs) (hb : Below W.heap.size W W') : IA W' g xs := blk_below h hb
theorem IA.drewN {W : World} {g : Nat} {xs : List Int} (h : IA W g xs) (n : Nat) : IA (W.drewN n) g xs := h
theorem IA.made (W : World) (m : Nat) : IA (W.alloc (.cells (madeCells #[.int .i64 0] m) 3)) W.heap.size (List.replicate m 0) := by
  unfold IA
  rw [blk_new]
  congr 2
  apply Array.ext'
  apply List.ext_getElem
  · simp [madeCells]
  · intro i h1 h2
    simp [madeCells, Nat.mod_one]

theorem IA.far {W : World} {g : Nat} {xs : List Int} (h : IA W g xs) {p : Addr} (hp : g ≠ p.block) (u : Value) : IA (W.setCell p u) g xs := blk_far h hp u
def dfn (t : List S28) (k n : Nat) : List Int := if k < n then dar t k 0 n else deps (t.take k)
theorem dfn_next (t : List S28) (k n : Nat) (ht : k < t.length) (hk : k < n) : (dar t k (mxk (deps (t.take k)) (t[k]'ht).f3 0) n).set k (mxk (deps (t.take k)) (t[k]'ht).f3 0 + 1) = dfn t (k + 1) n := by
  rw [dar_set _ _ _ _ _ (by omega)]
  unfold dfn
  by_cases h : k + 1 < n
  · rw [if_pos h]; exact dar_next t k n ht h rfl
  · rw [if_neg h]; exact dar_last t k n ht (by omega)
theorem two_made (w : World) (n : Nat) (hn : 0 < n) : IA ((w.alloc (.cells (madeCells #[.int .i64 0] n) 3)).alloc (.cells (madeCells #[.int .i64 0] n) 3)).drew w.heap.size (Uf [] n) ∧ IA ((w.alloc (.cells (madeCells #[.int .i64 0] n) 3)).alloc (.cells (madeCells #[.int .i64 0] n) 3)).drew (w.heap.size + 1) (List.replicate n 0) ∧
    Below w.heap.size w ((w.alloc (.cells (madeCells #[.int .i64 0] n) 3)).alloc (.cells (madeCells #[.int .i64 0] n) 3)).drew ∧ ∀ t : List S28, dfn t 0 n = List.replicate n 0 := by
  refine ⟨?_, ?_, below_drew (below_alloc (below_alloc (Below.refl _ _) _) _), fun t => by unfold dfn; rw [if_pos hn, ← dar_start t n hn]⟩
  · rw [Uf_nil]
    exact blk_drew (blk_alloc (IA.made w n) _)
  · have h := IA.made (w.alloc (.cells (madeCells #[.int .i64 0] n) 3)) n
    rw [show (w.alloc (.cells (madeCells #[.int .i64 0] n) 3)).heap.size = w.heap.size + 1 by simp] at h
    exact blk_drew h
end Go.Proofs.YtjhinklijopobaaDoor.Co
namespace Go.Proofs.YtjhinklijopobaaDoor.Co
open Go.RowKit Go.Proofs.YtjhinklijopobaaDoor.PCoreChecks Go.Proofs.YtjhinklijopobaaDoorW.PrintWords Go.Proofs.YtjhinklijopobaaDoorW.PrintLast Go.Proofs.YtjhinklijopobaaDoorW.PrintMore
set_option linter.unusedVariables false
set_option linter.unusedSimpArgs false

/-- All kids of the nodes of a list. -/
def kidsT (t : List S28) : List Int := t.flatMap S28.f3
def badK (i : Nat) (ks : List Int) : Bool := ks.any fun k => decide (k < 0) || decide ((i : Int) ≤ k)
/-- The kids of each node stand ahead of it. -/
def rB (t : List S28) : Bool := (List.range t.length).all fun i => !badK i (rd_T28 t (i : Int)).f3
/-- The list is a tree. -/
def treeB (t : List S28) : Bool := decide (0 < t.length) && (rB t && (List.range (t.length - 1)).all fun i => decide ((kidsT t).count (i : Int) = 1))
def heightT (t : List S28) : Int := rd (deps t) ((t.length : Int) - 1)
/-- The error of a list as a tree. -/
def tErr (t : List S28) : Int := if 4096 < t.length then 2 else if treeB t = true then (if 400 < heightT t then 2 else 0) else 3

theorem badK_mem {i : Nat} {ks : List Int} (h : badK i ks = false) {k : Int} (hk : k ∈ ks) : 0 ≤ k ∧ k < (i : Int) := by
  unfold badK at h
  have h2 := List.any_eq_false.1 h _ hk
  simp at h2
  omega
theorem badK_true {i : Nat} {ks : List Int} {k : Int} (hk : k ∈ ks) (h : k < 0 ∨ (i : Int) ≤ k) : badK i ks = true := by
  unfold badK
  rw [List.any_eq_true]
  exact ⟨k, hk, by simpa using h⟩
theorem rB_bad {t : List S28} {i : Nat} (hi : i < t.length) (h : badK i (rd_T28 t (i : Int)).f3 = true) : rB t = false := by
  unfold rB
  rw [List.all_eq_false]
  exact ⟨i, List.mem_range.2 hi, by rw [h]; decide⟩
theorem tErr_form {t : List S28} (hl : ¬ 4096 < t.length) (h : rB t = false) : tErr t = 3 := by
  unfold tErr treeB
  rw [if_neg hl, h]
  simp
theorem wrap_small {x : Int} (h0 : -9223372036854775808 ≤ x) (h1 : x ≤ 9223372036854775807) : wrap64 x = x := by unfold wrap64; omega

theorem flat_snoc (t : List S28) (i : Nat) (h : i < t.length) : (t.take (i + 1)).flatMap S28.f3 = (t.take i).flatMap S28.f3 ++ (t[i]'h).f3 := by
  rw [List.take_succ_eq_append_getElem h, List.flatMap_append, List.flatMap_cons, List.flatMap_nil, List.append_nil]
theorem addb {a u v z : Nat} (ih : u ≤ a * 17592186044416) (h1 : z * 8 ≤ 140737488351232) (h2 : v ≤ z) : u + v ≤ (a + 1) * 17592186044416 := by omega
theorem cnt_bound (t : List S28) (hl : ∀ x ∈ t, x.f3.length * 8 ≤ 140737488351232) (a : Nat) (k : Int) : ((t.take a).flatMap S28.f3).count k ≤ a * 17592186044416 := by
  induction a with
  | zero => simp
  | succ a ih =>
    by_cases h : a < t.length
    · rw [flat_snoc t a h, List.count_append]
      have h1 := hl _ (List.getElem_mem h)
      have h2 := List.count_le_length (l := (t[a]'h).f3) (a := k)
      exact addb ih h1 h2
    · have e1 : t.take (a + 1) = t.take a := by rw [List.take_of_length_le (i := a + 1) (by omega), List.take_of_length_le (i := a) (by omega)]
      rw [e1]
      exact Nat.le_trans ih (Nat.mul_le_mul_right _ (Nat.le_succ a))
theorem rB_of {t : List S28} (h : ∀ k (hk : k < t.length), badK k (t[k]'hk).f3 = false) : rB t = true := by
  unfold rB
  rw [List.all_eq_true]
  intro i hi
  have hi' := List.mem_range.1 hi
  rw [rdT_nat t i hi', h i hi']; rfl
theorem rB_at {t : List S28} (h : rB t = true) (k : Nat) (hk : k < t.length) : badK k (t[k]'hk).f3 = false := by
  have h2 := List.all_eq_true.1 h k (List.mem_range.2 hk)
  rw [rdT_nat t k hk] at h2
  simpa using h2
/-- The root is nobody's kid. -/
theorem root_free {t : List S28} (h : rB t = true) : (kidsT t).count ((t.length : Int) - 1) = 0 := by
  rw [List.count_eq_zero]
  intro hm
  unfold kidsT at hm
  obtain ⟨x, hx, hix⟩ := List.mem_flatMap.1 hm
  obtain ⟨j, hj, rfl⟩ := List.mem_iff_getElem.1 hx
  have := badK_mem (rB_at h j hj) hix
  omega
theorem tErr_count {t : List S28} (hl : ¬ 4096 < t.length) {i : Nat} (hi : i < t.length) (hr : rB t = true) (h : decide ((kidsT t).count (i : Int) = 1) ≠ decide (i < t.length - 1)) : tErr t = 3 := by
  have ht : treeB t = false := by
    unfold treeB
    by_cases hi1 : i < t.length - 1
    · have h2 : ((List.range (t.length - 1)).all fun i => decide ((kidsT t).count (i : Int) = 1)) = false := by
        rw [List.all_eq_false]
        refine ⟨i, List.mem_range.2 hi1, ?_⟩
        rw [decide_eq_true hi1] at h
        simpa using h
      rw [h2]; simp
    · exfalso
      rw [decide_eq_false hi1] at h
      have hcn : (kidsT t).count (i : Int) = 1 := by simpa using h
      have := root_free hr
      rw [show ((t.length : Int) - 1) = (i : Int) by omega] at this
      omega
  unfold tErr
  rw [if_neg hl, ht]; rfl
theorem tErr_ok {t : List S28} (hl : ¬ 4096 < t.length) (h0 : 0 < t.length) (hr : rB t = true) (h : ∀ i, i < t.length → decide ((kidsT t).count (i : Int) = 1) = decide (i < t.length - 1)) : tErr t = if 400 < heightT t then 2 else 0 := by
  have ht : treeB t = true := by
    unfold treeB
    rw [hr, decide_eq_true h0, Bool.true_and, Bool.true_and, List.all_eq_true]
    intro j hj
    have hj' := List.mem_range.1 hj
    have h1 := h j (by omega)
    rw [decide_eq_true hj'] at h1
    exact h1
  unfold tErr
  rw [if_neg hl, if_pos ht]
end Go.Proofs.YtjhinklijopobaaDoor.Co
namespace Go.Proofs.YtjhinklijopobaaDoor.Co
open Go.RowKit Go.Proofs.YtjhinklijopobaaDoor.PCoreChecks Go.Proofs.YtjhinklijopobaaDoorW.PrintWords Go.Proofs.YtjhinklijopobaaDoorW.PrintLast Go.Proofs.YtjhinklijopobaaDoorW.PrintMore
attribute [local go_sem] max2_int max_two
set_option linter.unusedVariables false
set_option linter.unusedSimpArgs false

/-- The two rows of treeError. -/
structure CT (w W : World) (gU gD : Nat) (U D : List Int) : Prop where
  iu : IA W gU U
  id : IA W gD D
  below : Below w.heap.size w W
  hU : w.heap.size ≤ gU
  hD : w.heap.size ≤ gD
  ne : gU ≠ gD
theorem CT.lift {w W W' : World} {gU gD : Nat} {U D : List Int} (h : CT w W gU gD U D) (hb : Below W.heap.size W W') : CT w W' gU gD U D :=
  ⟨h.iu.below hb, h.id.below hb, below_step h.below hb, h.hU, h.hD, h.ne⟩
theorem CT.putU {w W : World} {gU gD : Nat} {U D : List Int} (h : CT w W gU gD U D) (j : Nat) (y : Int) : CT w (W.setCell ⟨gU, j, none⟩ (.int .i64 y)) gU gD (U.set j y) D :=
  ⟨h.iu.put j y, h.id.far (by have := h.ne; simp; omega) _, h.below.setCell h.hU _, h.hU, h.hD, h.ne⟩
theorem CT.putD {w W : World} {gU gD : Nat} {U D : List Int} (h : CT w W gU gD U D) (j : Nat) (y : Int) : CT w (W.setCell ⟨gD, j, none⟩ (.int .i64 y)) gU gD U (D.set j y) :=
  ⟨h.iu.far (by have := h.ne; simp; omega) _, h.id.put j y, h.below.setCell h.hD _, h.hU, h.hD, h.ne⟩

set_option maxHeartbeats 16000000 in
set_option maxRecDepth 100000 in
theorem treeError_calls (t : List S28) (A0 : Option Addr) (c0 : Nat) (w : World) (hr : Kd.C k28 w A0 t.length t) (hl : ∀ x ∈ t, x.f3.length * 8 ≤ 140737488351232) :
    Calls Tryd.prog 68 #[.slice A0 t.length c0] w fun e w' => e = .returned (.int .i64 (tErr t)) ∧ Below w.heap.size w w' := by
  obtain ⟨rv, hrv⟩ : ∃ rv : Int, rv = tErr t := ⟨_, rfl⟩
  have HRV := Go.Lib.hid hrv
  rw [← hrv]
  clear hrv
  have htm : t.length ≤ 9223372036854775807 := hr.2.1
  by_cases hbig : 4096 < t.length
  · have d1 : decide (4096 < t.length) = true := decide_eq_true hbig
    have d2 : decide ((4096 : Int) < (t.length : Int)) = true := decide_eq_true (by omega)
    have HV := Go.Lib.hid (show rv = 2 by rw [HRV.out, tErr, if_pos hbig])
    clear hr hl hbig
    go_enter Tryd.func68, Tryd.ntmps68
    go_wp2_with fail
    go_ret
    exact ⟨by rw [HV.out]; rfl, Below.refl _ _⟩
  have d1 : decide (4096 < t.length) = false := decide_eq_false hbig
  have d2 : decide ((4096 : Int) < (t.length : Int)) = false := decide_eq_false (by omega)
  by_cases h0 : t.length = 0
  · have e1 : ((t.length : Int) == 0) = true := beq_iff_eq.2 (by omega)
    have e2 : (t.length == 0) = true := beq_iff_eq.2 h0
    have HV := Go.Lib.hid (show rv = 3 by rw [HRV.out, tErr, if_neg hbig, if_neg (by unfold treeB; rw [decide_eq_false (by omega)]; simp)])
    clear hr hl hbig h0
    go_enter Tryd.func68, Tryd.ntmps68
    go_wp2_with fail
    go_ret
    exact ⟨by rw [HV.out]; rfl, Below.refl _ _⟩
  have e1 : ((t.length : Int) == 0) = false := beq_eq_false_iff_ne.2 (by omega)
  have e2 : (t.length == 0) = false := beq_eq_false_iff_ne.2 h0
  have ht9 : (t.length : Int) ≤ 4096 := by omega
  have ht1 : (1 : Int) ≤ (t.length : Int) := by omega
  obtain ⟨ad, rfl⟩ : ∃ ad, A0 = some ad := by
    obtain ⟨ad, e, _⟩ := hr.2.2 (by omega)
    exact ⟨ad, e⟩
  have HR := Go.Lib.hid hr
  have HL := Go.Lib.hid hl
  have HT := Go.Lib.hid (show t.length ≤ 4096 by omega)
  have HT1 := Go.Lib.hid (show 0 < t.length by omega)
  have HBIG := Go.Lib.hid hbig
  have hmk : ∀ W : World, (Instr.makeSlice 25 (.int .i64 (t.length : Int)) (.int .i64 (t.length : Int))).run Tryd.prog W = .ok (.slice (some ⟨W.heap.size, 0, none⟩) t.length t.length) (W.alloc (.cells (madeCells #[.int .i64 0] t.length) 3)) :=
    print_make (P := Tryd.prog) 25 3 .i64 8 Tryd.underlying25 info3 (by decide) t.length (by have := HT.out; omega)
  clear hr hl hbig h0
  go_enter Tryd.func68, Tryd.ntmps68
  go_upto_region 5 with fail
  go_cut [3, 4] (fun s3 s4 wx => ∃ gU gD : Nat, s4 = .slice (some ⟨gU, 0, none⟩) t.length t.length ∧ s3 = .slice (some ⟨gD, 0, none⟩) t.length t.length ∧ Hid (CT w wx gU gD (Uf [] t.length) (dfn t 0 t.length)))
  case first =>
    have HTM := Go.Lib.hid (two_made w t.length HT1.out)
    go_region
    · go_wp2_with fail
      go_meet
      exact ⟨w.heap.size + 1, w.heap.size, rfl, rfl, Go.Lib.hid ⟨by rw [Uf_nil]; exact HTM.out.2.1, by rw [HTM.out.2.2.2, ← Uf_nil]; exact HTM.out.1, HTM.out.2.2.1, by omega, Nat.le_refl _, by omega⟩⟩
    · go_wp2_with fail
      go_meet
      exact ⟨w.heap.size, w.heap.size + 1, rfl, rfl, Go.Lib.hid ⟨HTM.out.1, by rw [HTM.out.2.2.2]; exact HTM.out.2.1, HTM.out.2.2.1, Nat.le_refl _, by omega, by omega⟩⟩
  case rest =>
    obtain ⟨gU, gD, rfl, rfl, hS⟩ := hcut
    clear hmk
    go_wp2_with fail
    go_loopg [25] t.length (fun g_ v25 w' => ∃ i : Nat, Hid (i + g_ = t.length) ∧ v25 = .int .i64 i ∧ Hid (∀ k (hk : k < t.length), k < i → badK k (t[k]'hk).f3 = false) ∧ Hid (CT w w' gU gD (Uf ((t.take i).flatMap S28.f3) t.length) (dfn t i t.length)))
    case atStart => exact ⟨0, Go.Lib.hid (by omega), rfl, Go.Lib.hid (by omega), hS⟩
    case round =>
      clear hS
      obtain ⟨i, hi, rfl, hz, hS⟩ := hrel
      obtain ⟨wo, hwo⟩ : ∃ wo : World, wo = wr := ⟨_, rfl⟩
      subst hwo
      obtain ⟨ga, hga⟩ : ∃ ga : Nat, ga = gk := ⟨_, rfl⟩
      subst hga
      by_cases hlt : i < t.length
      · have hlt' : (i : Int) < (t.length : Int) := by omega
        have hi0 : (0 : Int) ≤ (i : Int) := by omega
        have HI := Go.Lib.hid hlt
        obtain ⟨ad2, A2, c2, A3, c3, A4, c4, e_, p0, p1, p2, p3, p4, -, -, l3, g3, -, -⟩ := at_T28 HR.out (i : Int) hi0 hlt'
        cases e_
        rw [rdT_nat t i hlt] at p0 p1 p2 p3 p4 l3 g3
        rw [Int.toNat_natCast] at p0 p1 p2 p3 p4
        replace p0 := pw_cell_below hS.out.below p0
        replace p1 := pw_cell_below hS.out.below p1
        replace p2 := pw_cell_below hS.out.below p2
        replace p3 := pw_cell_below hS.out.below p3
        replace p4 := pw_cell_below hS.out.below p4
        have HLX := Go.Lib.hid (HL.out _ (List.getElem_mem hlt))
        have HTK := Go.Lib.hid (flat_snoc t i hlt)
        have HDN := Go.Lib.hid (dfn_next t i t.length hlt hlt)
        have HCB := Go.Lib.hid (show ∀ k : Int, ((t.take i).flatMap S28.f3).count k ≤ i * 17592186044416 from fun k => cnt_bound t HL.out i k)
        have HZX := Go.Lib.hid (show badK i (t[i]'hlt).f3 = false → ∀ k (hk : k < t.length), k < i + 1 → badK k (t[k]'hk).f3 = false from fun h k hk hki => by
          by_cases e : k = i
          · subst e; exact h
          · exact hz.out k hk (by omega))
        have HBAD := Go.Lib.hid (show badK i (t[i]'hlt).f3 = true → rv = 3 from fun h => by
          rw [HRV.out]
          exact tErr_form HBIG.out (rB_bad hlt (by rw [rdT_nat t i hlt]; exact h)))
        generalize t[i]'hlt = x at p0 p1 p2 p3 p4 l3 g3 HLX HTK HDN HZX HBAD
        have G3 := Go.Lib.hid g3
        have hxl : (x.f3.length : Int) ≤ 9223372036854775807 := by have := G3.out.2.1; omega
        have HS0 := Go.Lib.hid (show CT w (wo.alloc (.cells #[.int .i64 x.f0, .int .i64 x.f1, .slice A2 x.f2.length c2, .slice A3 x.f3.length c3, .slice A4 x.f4.length c4] 28)) gU gD (Uf ((t.take i).flatMap S28.f3 ++ x.f3.take 0) t.length) (dar t i (mxk (deps (t.take i)) (x.f3.take 0) 0) t.length) by
          have h := hS.out.lift (below_alloc (Below.refl _ _) (.cells #[.int .i64 x.f0, .int .i64 x.f1, .slice A2 x.f2.length c2, .slice A3 x.f3.length c3, .slice A4 x.f4.length c4] 28))
          unfold dfn at h
          rw [if_pos hlt] at h
          rw [List.take_zero, List.append_nil]
          exact h)
        clear hlt g3 l3 hS
        go_wp2_with fail
        go_loopg [33] x.f3.length (fun g_ v33 w' => ∃ j : Nat, Hid (j + g_ = x.f3.length) ∧ v33 = .int .i64 j ∧ Hid (badK i (x.f3.take j) = false) ∧ Hid (CT w w' gU gD (Uf ((t.take i).flatMap S28.f3 ++ x.f3.take j) t.length) (dar t i (mxk (deps (t.take i)) (x.f3.take j) 0) t.length)))
        case atStart => exact ⟨0, Go.Lib.hid (by omega), rfl, Go.Lib.hid rfl, HS0⟩
        case round =>
          clear p0 p1 p2 p3 p4 HS0
          obtain ⟨j, hj, rfl, hbk, hC⟩ := hrel
          obtain ⟨wi, hwi⟩ : ∃ wi : World, wi = wr := ⟨_, rfl⟩
          subst hwi
          by_cases hlt : j < x.f3.length
          · have hlt2 : (j : Int) < (x.f3.length : Int) := by omega
            have hj0 : (0 : Int) ≤ (j : Int) := by omega
            obtain ⟨ad3, e_, q0⟩ := Kd.at_int (Kd.C_below G3.out hC.out.below) (j : Int) hj0 hlt2
            subst e_
            rw [rd_nat _ j hlt, Int.toNat_natCast] at q0
            have HTJ := Go.Lib.hid (List.take_succ_eq_append_getElem hlt)
            have HMJ := Go.Lib.hid (List.getElem_mem hlt)
            have HLJ := Go.Lib.hid hlt
            generalize x.f3[j]'hlt = y at q0 HTJ HMJ
            clear hlt
            by_cases hy0 : y < 0
            · have hd : decide (y < 0) = true := decide_eq_true hy0
              have HV3 := Go.Lib.hid (show rv = 3 from HBAD.out (badK_true HMJ.out (Or.inl hy0)))
              clear hy0
              go_wp2_with fail
              go_ret
              exact ⟨by rw [HV3.out]; rfl, hC.out.below⟩
            have hd : decide (y < 0) = false := decide_eq_false hy0
            by_cases hy1 : (i : Int) ≤ y
            · have hd1 : decide ((i : Int) ≤ y) = true := decide_eq_true hy1
              have HV3 := Go.Lib.hid (show rv = 3 from HBAD.out (badK_true HMJ.out (Or.inr hy1)))
              clear hy0 hy1
              go_wp2_with fail
              go_ret
              exact ⟨by rw [HV3.out]; rfl, hC.out.below⟩
            have hd1 : decide ((i : Int) ≤ y) = false := decide_eq_false hy1
            have HBK := Go.Lib.hid (show badK i (x.f3.take (j + 1)) = false by
              rw [HTJ.out]; unfold badK; rw [List.any_append]
              have h := hbk.out; unfold badK at h
              rw [h]; simp [hd, hd1])
            obtain ⟨yn, rfl⟩ : ∃ yn : Nat, y = yn := ⟨y.toNat, by omega⟩
            have hy2 : (0 : Int) ≤ (yn : Int) := by omega
            have hyi : (yn : Int) < (i : Int) := by omega
            have hd1' : decide (i ≤ yn) = false := decide_eq_false (by omega)
            have hy3 : (yn : Int) < (t.length : Int) := by omega
            have HUN := Go.Lib.hid (Uf_snoc ((t.take i).flatMap S28.f3 ++ x.f3.take j) t.length yn (by omega))
            have HUB := Go.Lib.hid (show ((t.take i).flatMap S28.f3 ++ x.f3.take j).count (yn : Int) < 4611686018427387904 by
              have h1 := List.count_le_length (l := x.f3.take j) (a := (yn : Int))
              rw [List.length_take] at h1
              rw [List.count_append]
              have := HCB.out (yn : Int); have := HLX.out; have := HT.out; have := HI.out
              omega)
            have u1 := hC.out.iu.cell yn (Uf_at _ t.length yn (by omega))
            have uf := hC.out.iu.frozen yn
            have HMX := Go.Lib.hid (show mxk (deps (t.take i)) (x.f3.take (j + 1)) 0 = if mxk (deps (t.take i)) (x.f3.take j) 0 < rd (deps (t.take i)) yn then rd (deps (t.take i)) yn else mxk (deps (t.take i)) (x.f3.take j) 0 by rw [HTJ.out, mxk_snoc])
            generalize ((t.take i).flatMap S28.f3 ++ x.f3.take j).count (yn : Int) = cu at u1 HUN HUB
            have hcu : IntKind.i64.wrap ((cu : Int) + 1) = (cu : Int) + 1 := IntWalk.i64_in _ (by have := HUB.out; omega)
            have hC1 := Go.Lib.hid (show CT w (wi.setCell ⟨gU, yn, none⟩ (.int .i64 ((cu : Int) + 1))) gU gD (Uf ((t.take i).flatMap S28.f3 ++ x.f3.take (j + 1)) t.length) (dar t i (mxk (deps (t.take i)) (x.f3.take j) 0) t.length) by
              have h := hC.out.putU yn ((cu : Int) + 1)
              rw [HUN.out, List.append_assoc, ← HTJ.out] at h
              exact h)
            generalize mxk (deps (t.take i)) (x.f3.take j) 0 = m at hC hC1 HMX
            clear hy0 hy1 hbk
            have d1 := hC1.out.id.cell yn (dar_old t i t.length m yn (by omega) hyi (by have := HI.out; omega))
            have d2 := hC1.out.id.cell i (dar_at t i t.length m (by have := HI.out; omega))
            have df := hC1.out.id.frozen i
            generalize rd (deps (t.take i)) (yn : Int) = dy at d1 HMX
            by_cases hm : m < dy
            · have hd3 : decide (m < dy) = true := decide_eq_true hm
              have HC2 := Go.Lib.hid (show CT w ((wi.setCell ⟨gU, yn, none⟩ (.int .i64 ((cu : Int) + 1))).setCell ⟨gD, i, none⟩ (.int .i64 dy)).drew gU gD (Uf ((t.take i).flatMap S28.f3 ++ x.f3.take (j + 1)) t.length) (dar t i (mxk (deps (t.take i)) (x.f3.take (j + 1)) 0) t.length) by
                have h := hC1.out.putD i dy
                rw [dar_set t i t.length m dy (by have := HI.out; omega)] at h
                rw [HMX.out, if_pos hm]
                exact h.lift (below_drew (Below.refl _ _)))
              clear hC hC1 HMX HUN
              go_wp2_with fail
              go_region
              go_wp2_with fail
              go_roundg (gk - 1)
              case measure => have := hj.out; have := HLJ.out; omega
              case rel => exact ⟨j + 1, Go.Lib.hid (by have := hj.out; have := HLJ.out; omega), by go_num, HBK, HC2⟩
            · have hd3 : decide (m < dy) = false := decide_eq_false hm
              have HC2 := Go.Lib.hid (show CT w ((wi.setCell ⟨gU, yn, none⟩ (.int .i64 ((cu : Int) + 1))).setCell ⟨gD, i, none⟩ (.int .i64 m)).drew gU gD (Uf ((t.take i).flatMap S28.f3 ++ x.f3.take (j + 1)) t.length) (dar t i (mxk (deps (t.take i)) (x.f3.take (j + 1)) 0) t.length) by
                have h := hC1.out.putD i m
                rw [dar_set t i t.length m m (by have := HI.out; omega)] at h
                rw [HMX.out, if_neg hm]
                exact h.lift (below_drew (Below.refl _ _)))
              clear hC hC1 HMX HUN
              go_wp2_with fail
              go_region
              go_wp2_with fail
              go_roundg (gk - 1)
              case measure => have := hj.out; have := HLJ.out; omega
              case rel => exact ⟨j + 1, Go.Lib.hid (by have := hj.out; have := HLJ.out; omega), by go_num, HBK, HC2⟩
          · have hd : decide ((j : Int) < (x.f3.length : Int)) = false := decide_eq_false (by omega)
            have hd2 : decide (j < x.f3.length) = false := decide_eq_false hlt
            have hd3 : ¬ (j : Int) < (x.f3.length : Int) := by omega
            have HJ := Go.Lib.hid (show x.f3.take j = x.f3 by rw [List.take_of_length_le (by omega)])
            rw [HJ.out] at hbk hC
            rw [← HTK.out] at hC
            have HMD := Go.Lib.hid (mxk_bound (d := deps (t.take i)) (B := i) (by omega) (fun y hy => by have := deps_bound (t.take i) y hy; rw [List.length_take] at this; omega) x.f3)
            clear hlt hj HJ
            generalize mxk (deps (t.take i)) x.f3 0 = m at *
            have d2 := hC.out.id.cell i (dar_at t i t.length m (by have := HI.out; omega))
            have df := hC.out.id.frozen i
            have hm0 : 0 ≤ m := HMD.out.1
            have hm1 : m ≤ (i : Int) := HMD.out.2
            have hC1 := Go.Lib.hid (show CT w (wi.setCell ⟨gD, i, none⟩ (.int .i64 (m + 1))) gU gD (Uf ((t.take (i + 1)).flatMap S28.f3) t.length) (dfn t (i + 1) t.length) by
              have h := hC.out.putD i (m + 1)
              rw [HDN.out] at h
              exact h)
            have HZ2 := Go.Lib.hid (HZX.out hbk.out)
            go_wp2_with fail
            go_roundg (ga - 1)
            case measure => have := hi.out; have := HI.out; omega
            case rel => exact ⟨i + 1, Go.Lib.hid (by have := hi.out; have := HI.out; omega), by go_num, HZ2, hC1⟩
      · have hd : decide ((i : Int) < (t.length : Int)) = false := decide_eq_false (by omega)
        have hd2 : decide (i < t.length) = false := decide_eq_false hlt
        have hd3 : ¬ (i : Int) < (t.length : Int) := by omega
        have HS2 := Go.Lib.hid (show CT w wo gU gD (Uf (kidsT t) t.length) (deps t) by
          have h := hS.out
          unfold dfn at h
          rw [if_neg hlt, List.take_of_length_le (by omega)] at h
          exact h)
        have HRB := Go.Lib.hid (rB_of (fun k hk => hz.out k hk (by omega)))
        clear hlt hz hS hi
        go_wp2_with fail
        go_loopg [72] t.length (fun g_ v72 w' => ∃ k : Nat, Hid (k + g_ = t.length) ∧ v72 = .int .i64 k ∧ Hid (∀ i, i < k → decide ((kidsT t).count (i : Int) = 1) = decide (i < t.length - 1)) ∧ w' = wo)
        case atStart => exact ⟨0, Go.Lib.hid (by omega), rfl, Go.Lib.hid (by omega), rfl⟩
        case round =>
          obtain ⟨k, hk, rfl, hone, rfl⟩ := hrel
          by_cases hlk : k < t.length
          · have hlk' : (k : Int) < (t.length : Int) := by omega
            have u1 := HS2.out.iu.cell k (Uf_at _ t.length k hlk)
            have HLK := Go.Lib.hid hlk
            obtain ⟨b1, hb1⟩ : ∃ b, decide ((kidsT t).count (k : Int) = 1) = b := ⟨_, rfl⟩
            obtain ⟨b2, hb2⟩ : ∃ b, decide (k < t.length - 1) = b := ⟨_, rfl⟩
            have HB12 := Go.Lib.hid (show b1 ≠ b2 → rv = 3 from fun h => by rw [HRV.out]; exact tErr_count HBIG.out hlk HRB.out (by rw [hb1, hb2]; exact h))
            have HO2 := Go.Lib.hid (show b1 = b2 → ∀ i, i < k + 1 → decide ((kidsT t).count (i : Int) = 1) = decide (i < t.length - 1) from fun h i hi => by
              by_cases e : i = k
              · rw [e, hb1, hb2]; exact h
              · exact hone.out i (by omega))
            have g1 : ((((kidsT t).count (k : Int) : Nat) : Int) == 1) = b1 := by rw [← hb1]; exact decide_eq_decide.2 (by omega)
            have g2 : decide ((k : Int) < (t.length : Int) - 1) = b2 := by rw [← hb2]; exact decide_eq_decide.2 (by omega)
            generalize (kidsT t).count (k : Int) = cu at u1 g1
            clear hlk hb1 hb2
            cases b1
            all_goals cases b2
            · have HN := Go.Lib.hid (HO2.out rfl)
              go_wp2_with fail
              go_roundg (gk - 1)
              case measure => have := hk.out; have := HLK.out; omega
              case rel => exact ⟨k + 1, Go.Lib.hid (by have := hk.out; have := HLK.out; omega), by go_num, HN, rfl⟩
            · have HV3 := Go.Lib.hid (HB12.out (by decide))
              go_wp2_with fail
              go_ret
              exact ⟨by rw [HV3.out]; rfl, HS2.out.below⟩
            · have HV3 := Go.Lib.hid (HB12.out (by decide))
              go_wp2_with fail
              go_ret
              exact ⟨by rw [HV3.out]; rfl, HS2.out.below⟩
            · have HN := Go.Lib.hid (HO2.out rfl)
              go_wp2_with fail
              go_roundg (gk - 1)
              case measure => have := hk.out; have := HLK.out; omega
              case rel => exact ⟨k + 1, Go.Lib.hid (by have := hk.out; have := HLK.out; omega), by go_num, HN, rfl⟩
          · have hd : decide ((k : Int) < (t.length : Int)) = false := decide_eq_false (by omega)
            have hd2 : decide (k < t.length) = false := decide_eq_false hlk
            have hd3 : ¬ (k : Int) < (t.length : Int) := by omega
            have HV3 := Go.Lib.hid (show rv = if 400 < heightT t then 2 else 0 by
              rw [HRV.out]
              exact tErr_ok HBIG.out HT1.out HRB.out (fun i hi => hone.out i (by omega)))
            have hlast : ((t.length : Int) - 1) = ((t.length - 1 : Nat) : Int) := by omega
            have c1 := HS2.out.id.cell (t.length - 1) (x := heightT t) (by
              unfold heightT
              rw [hlast, rd_nat _ _ (by rw [deps_len]; have := HT1.out; omega), List.getElem?_eq_getElem])
            have hidx : ((t.length : Int) - 1).toNat = t.length - 1 := by omega
            have hlt9 : (t.length : Int) - 1 < (t.length : Int) := by omega
            generalize heightT t = hh at c1 HV3
            clear hlk hlast
            by_cases h4 : 400 < hh
            · have hd4 : decide (400 < hh) = true := decide_eq_true h4
              have HV4 := Go.Lib.hid (show rv = 2 by rw [HV3.out, if_pos h4])
              clear h4
              go_wp2_with fail
              go_ret
              exact ⟨by rw [HV4.out]; rfl, HS2.out.below⟩
            · have hd4 : decide (400 < hh) = false := decide_eq_false h4
              have HV4 := Go.Lib.hid (show rv = 0 by rw [HV3.out, if_neg h4])
              clear h4
              go_wp2_with fail
              go_ret
              exact ⟨by rw [HV4.out]; rfl, HS2.out.below⟩
end Go.Proofs.YtjhinklijopobaaDoor.Co
namespace Go.Proofs.YtjhinklijopobaaDoor.Co
open Go.RowKit Go.Proofs.YtjhinklijopobaaDoor.PCoreChecks Go.Proofs.YtjhinklijopobaaDoorW.PrintWords Go.Proofs.YtjhinklijopobaaDoorW.PrintLast Go.Proofs.YtjhinklijopobaaDoorW.PrintMore
set_option linter.unusedVariables false
set_option linter.unusedSimpArgs false

/-- What is known of the parents when some kids (cs) have been seen. -/
structure PS (t : List S28) (P cs : List Int) : Prop where
  len : P.length = t.length
  at_ : ∀ k : Nat, k < t.length → (cs.count (k : Int) = 0 ∧ P[k]? = some (-1)) ∨ (cs.count (k : Int) = 1 ∧ ∃ (i : Nat) (h : i < t.length), P[k]? = some (i : Int) ∧ k < i ∧ (k : Int) ∈ (t[i]'h).f3)
theorem PS.start (t : List S28) : PS t (List.replicate t.length (-1)) [] := ⟨by simp, fun k hk => Or.inl ⟨by simp, by simp [hk]⟩⟩
theorem PS.put {t : List S28} {P cs : List Int} (h : PS t P cs) {y i : Nat} (hi : i < t.length) (hy : y < i) (hm : (y : Int) ∈ (t[i]'hi).f3) (hP : P[y]? = some (-1)) : PS t (P.set y (i : Int)) (cs ++ [(y : Int)]) := by
  refine ⟨by rw [List.length_set]; exact h.len, fun k hk => ?_⟩
  rw [List.count_append, List.count_singleton]
  by_cases e : k = y
  · subst e
    right
    rcases h.at_ k hk with ⟨h1, _⟩ | ⟨_, j, hj, h2, _⟩
    · refine ⟨by rw [h1]; simp, i, hi, ?_, hy, hm⟩
      rw [List.getElem?_set_self (by rw [h.len]; exact hk)]
    · rw [hP] at h2
      have := Option.some.inj h2
      omega
  · rw [if_neg (by simp; omega), List.getElem?_set_ne (Ne.symm e)]
    exact h.at_ k hk
theorem PS.neg {t : List S28} {P cs : List Int} (h : PS t P cs) {y : Nat} (hy : y < t.length) {v : Int} (hv : P[y]? = some v) : (v < 0 → P[y]? = some (-1) ∧ cs.count (y : Int) = 0) ∧ (0 ≤ v → cs.count (y : Int) = 1) := by
  rcases h.at_ y hy with ⟨h1, h2⟩ | ⟨h1, i, hi, h2, _⟩
  · refine ⟨fun _ => ⟨h2, h1⟩, fun h3 => ?_⟩
    rw [h2] at hv
    have := Option.some.inj hv
    omega
  · refine ⟨fun h3 => ?_, fun _ => h1⟩
    rw [h2] at hv
    have := Option.some.inj hv
    omega
/-- The parents of a tree. -/
structure Par (t : List S28) (P : List Int) : Prop where
  tree : treeB t = true
  len : P.length = t.length
  root : P[t.length - 1]? = some (-1)
  up : ∀ k : Nat, k < t.length - 1 → ∃ (i : Nat) (h : i < t.length), P[k]? = some (i : Int) ∧ k < i ∧ (k : Int) ∈ (t[i]'h).f3
theorem PS.par {t : List S28} {P : List Int} (h : PS t P (kidsT t)) (h0 : 0 < t.length) (hr : rB t = true) (hP : ∀ k, k < t.length - 1 → ∃ v, P[k]? = some v ∧ 0 ≤ v) : Par t P := by
  refine ⟨?_, h.len, ?_, fun k hk => ?_⟩
  · unfold treeB
    rw [hr, decide_eq_true h0, Bool.true_and, Bool.true_and, List.all_eq_true]
    intro j hj
    have hj' := List.mem_range.1 hj
    obtain ⟨v, hv, hv0⟩ := hP j hj'
    exact decide_eq_true ((h.neg (by omega) hv).2 hv0)
  · rcases h.at_ (t.length - 1) (by omega) with ⟨_, h2⟩ | ⟨h1, _⟩
    · exact h2
    · have := root_free hr
      rw [show ((t.length : Int) - 1) = ((t.length - 1 : Nat) : Int) by omega] at this
      omega
  · obtain ⟨v, hv, hv0⟩ := hP k hk
    rcases h.at_ k (by omega) with ⟨_, h2⟩ | ⟨_, h2⟩
    · rw [hv] at h2
      have := Option.some.inj h2
      omega
    · exact h2
/-- A number that stands twice among the kids. -/
theorem treeB_twice {t : List S28} {i j y : Nat} (hi : i < t.length) (hj : j < (t[i]'hi).f3.length) (hy : ((t[i]'hi).f3[j]'hj) = (y : Int)) (hyi : y < i) (h : 1 ≤ ((t.take i).flatMap S28.f3 ++ (t[i]'hi).f3.take j).count (y : Int)) : treeB t = false := by
  have e1 : kidsT t = ((t.take i).flatMap S28.f3 ++ (t[i]'hi).f3.take j) ++ ((y : Int) :: ((t[i]'hi).f3.drop (j + 1) ++ (t.drop (i + 1)).flatMap S28.f3)) := by
    unfold kidsT
    have h1 : t.flatMap S28.f3 = (t.take i).flatMap S28.f3 ++ ((t[i]'hi).f3 ++ (t.drop (i + 1)).flatMap S28.f3) := by
      conv => lhs; rw [← List.take_append_drop i t, List.drop_eq_getElem_cons hi]
      rw [List.flatMap_append, List.flatMap_cons]
    have h2 : (t[i]'hi).f3 = (t[i]'hi).f3.take j ++ ((y : Int) :: (t[i]'hi).f3.drop (j + 1)) := by
      conv => lhs; rw [← List.take_append_drop j (t[i]'hi).f3, List.drop_eq_getElem_cons hj, hy]
    rw [h1]
    conv => lhs; rw [h2]
    simp
  have h2 : 2 ≤ (kidsT t).count (y : Int) := by
    rw [e1, List.count_append, List.count_cons_self]
    omega
  unfold treeB
  have h3 : ((List.range (t.length - 1)).all fun i => decide ((kidsT t).count (i : Int) = 1)) = false := by
    rw [List.all_eq_false]
    exact ⟨y, List.mem_range.2 (by omega), by simp; omega⟩
  rw [h3]; simp
theorem treeB_bad {t : List S28} (h : rB t = false) : treeB t = false := by unfold treeB; rw [h]; simp
theorem treeB_none {t : List S28} {k : Nat} (hk : k < t.length - 1) (h : (kidsT t).count (k : Int) = 0) : treeB t = false := by
  unfold treeB
  have h3 : ((List.range (t.length - 1)).all fun i => decide ((kidsT t).count (i : Int) = 1)) = false := by
    rw [List.all_eq_false]
    exact ⟨k, List.mem_range.2 hk, by simp; omega⟩
  rw [h3]; simp

/-- What parentsOf answers. -/
def ParP (t : List S28) (w : World) (e : Ending) (w' : World) : Prop := Below w.heap.size w w' ∧ ((treeB t = false ∧ ∃ v, e = .returned (.tuple #[v, .bool false])) ∨
  (∃ P g, Par t P ∧ e = .returned (.tuple #[.slice (some ⟨g, 0, none⟩) t.length t.length, .bool true]) ∧ IA w' g P))
theorem ParP.bad {t : List S28} {w w' : World} {v : Value} (h : treeB t = false) (hb : Below w.heap.size w w') : ParP t w (.returned (.tuple #[v, .bool false])) w' := ⟨hb, Or.inl ⟨h, v, rfl⟩⟩
theorem ParP.good {t : List S28} {w w' : World} {P : List Int} {g : Nat} (h : Par t P) (hb : Below w.heap.size w w') (hi : IA w' g P) : ParP t w (.returned (.tuple #[.slice (some ⟨g, 0, none⟩) t.length t.length, .bool true])) w' := ⟨hb, Or.inr ⟨P, g, h, rfl, hi⟩⟩

set_option maxHeartbeats 8000000 in
set_option maxRecDepth 100000 in
theorem parentsOf_calls (t : List S28) (A0 : Option Addr) (c0 : Nat) (w : World) (hr : Kd.C k28 w A0 t.length t) (hn : t.length ≤ 4096) :
    Calls Tryd.prog 49 #[.slice A0 t.length c0] w (ParP t w) := by
  have HR := Go.Lib.hid hr
  have HT := Go.Lib.hid hn
  have ht9 : (t.length : Int) ≤ 4096 := by omega
  have hmk : ∀ W : World, (Instr.makeSlice 25 (.int .i64 (t.length : Int)) (.int .i64 (t.length : Int))).run Tryd.prog W = .ok (.slice (some ⟨W.heap.size, 0, none⟩) t.length t.length) (W.alloc (.cells (madeCells #[.int .i64 0] t.length) 3)) :=
    print_make (P := Tryd.prog) 25 3 .i64 8 Tryd.underlying25 info3 (by decide) t.length (by omega)
  have HIA0 := Go.Lib.hid (IA.made w t.length)
  have HB0 := Go.Lib.hid (below_alloc (Below.refl w.heap.size w) (.cells (madeCells #[.int .i64 0] t.length) 3))
  clear hr hn
  go_enter Tryd.func49, Tryd.ntmps49
  go_wp2_with fail
  clear hmk
  go_loopg [16] t.length (fun g_ v16 w' => ∃ i : Nat, Hid (i + g_ = t.length) ∧ v16 = .int .i64 i ∧ Hid (IA w' w.heap.size (List.replicate i (-1) ++ List.replicate (t.length - i) 0)) ∧ Hid (Below w.heap.size w w'))
  case atStart => exact ⟨0, Go.Lib.hid (by omega), rfl, Go.Lib.hid (by simpa using HIA0.out), HB0⟩
  case round =>
    clear HIA0 HB0
    obtain ⟨i, hi, rfl, hA, hb⟩ := hrel
    obtain ⟨wo, hwo⟩ : ∃ wo : World, wo = wr := ⟨_, rfl⟩
    subst hwo
    by_cases hlt : i < t.length
    · have hlt' : (i : Int) < (t.length : Int) := by omega
      have HI := Go.Lib.hid hlt
      have c1 := hA.out.cell i (x := 0) (by rw [List.getElem?_append_right (by simp), List.length_replicate, Nat.sub_self, List.getElem?_replicate, if_pos (by omega)])
      have hf := hA.out.frozen i
      have hA2 := Go.Lib.hid (show IA (wo.setCell ⟨w.heap.size, i, none⟩ (.int .i64 (-1))) w.heap.size (List.replicate (i + 1) (-1) ++ List.replicate (t.length - (i + 1)) 0) by
        have h := hA.out.put i (-1)
        rw [List.set_append_right _ _ (by simp), List.length_replicate, Nat.sub_self, show t.length - i = (t.length - (i + 1)) + 1 by omega, List.replicate_succ, List.set_cons_zero] at h
        rw [List.replicate_succ', List.append_assoc]
        exact h)
      have hb2 := Go.Lib.hid (hb.out.setCell (p := ⟨w.heap.size, i, none⟩) (Nat.le_refl _) (.int .i64 (-1)))
      clear hlt hA hb
      go_wp2_with fail
      go_roundg (gk - 1)
      case measure => have := hi.out; have := HI.out; omega
      case rel => exact ⟨i + 1, Go.Lib.hid (by have := hi.out; have := HI.out; omega), by go_num, hA2, hb2⟩
    · have hd : decide ((i : Int) < (t.length : Int)) = false := decide_eq_false (by omega)
      have hd2 : decide (i < t.length) = false := decide_eq_false hlt
      have hd3 : ¬ (i : Int) < (t.length : Int) := by omega
      have hA2 := Go.Lib.hid (show IA wo w.heap.size (List.replicate t.length (-1)) by
        have h := hA.out
        rw [show t.length - i = 0 by omega, show i = t.length by have := hi.out; omega] at h
        simpa using h)
      clear hlt hA hi
      go_wp2_with fail
      go_loopg [25] t.length (fun g_ v25 w' => ∃ (i : Nat) (P : List Int), Hid (i + g_ = t.length) ∧ v25 = .int .i64 i ∧ Hid (∀ k (hk : k < t.length), k < i → badK k (t[k]'hk).f3 = false) ∧ Hid (PS t P ((t.take i).flatMap S28.f3)) ∧ Hid (IA w' w.heap.size P) ∧ Hid (Below w.heap.size w w'))
      case atStart => exact ⟨0, List.replicate t.length (-1), Go.Lib.hid (by omega), rfl, Go.Lib.hid (by omega), Go.Lib.hid (PS.start t), hA2, hb⟩
      case round =>
        clear hA2 hb
        obtain ⟨i, P, hi, rfl, hz, hP, hA, hb⟩ := hrel
        obtain ⟨wo, hwo⟩ : ∃ wo : World, wo = wr := ⟨_, rfl⟩
        subst hwo
        obtain ⟨ga, hga⟩ : ∃ ga : Nat, ga = gk := ⟨_, rfl⟩
        subst hga
        by_cases hlt : i < t.length
        · have hlt' : (i : Int) < (t.length : Int) := by omega
          have hi0 : (0 : Int) ≤ (i : Int) := by omega
          have HI := Go.Lib.hid hlt
          obtain ⟨ad2, A2, c2, A3, c3, A4, c4, e_, p0, p1, p2, p3, p4, -, -, l3, g3, -, -⟩ := at_T28 HR.out (i : Int) hi0 hlt'
          cases e_
          rw [rdT_nat t i hlt] at p0 p1 p2 p3 p4 l3 g3
          rw [Int.toNat_natCast] at p0 p1 p2 p3 p4
          replace p0 := pw_cell_below hb.out p0
          replace p1 := pw_cell_below hb.out p1
          replace p2 := pw_cell_below hb.out p2
          replace p3 := pw_cell_below hb.out p3
          replace p4 := pw_cell_below hb.out p4
          have HTK := Go.Lib.hid (flat_snoc t i hlt)
          have HZX := Go.Lib.hid (show badK i (t[i]'hlt).f3 = false → ∀ k (hk : k < t.length), k < i + 1 → badK k (t[k]'hk).f3 = false from fun h k hk hki => by
            by_cases e : k = i
            · subst e; exact h
            · exact hz.out k hk (by omega))
          have HBAD := Go.Lib.hid (show badK i (t[i]'hlt).f3 = true → treeB t = false from fun h => treeB_bad (rB_bad hlt (by rw [rdT_nat t i hlt]; exact h)))
          have HTW := Go.Lib.hid (show ∀ (j y : Nat) (hj : j < (t[i]'hlt).f3.length), ((t[i]'hlt).f3[j]'hj) = (y : Int) → y < i → 1 ≤ ((t.take i).flatMap S28.f3 ++ (t[i]'hlt).f3.take j).count (y : Int) → treeB t = false from fun j y hj h1 h2 h3 => treeB_twice hlt hj h1 h2 h3)
          have HPUT := Go.Lib.hid (show ∀ (P cs : List Int) (y : Nat), PS t P cs → y < i → (y : Int) ∈ (t[i]'hlt).f3 → P[y]? = some (-1) → PS t (P.set y (i : Int)) (cs ++ [(y : Int)]) from fun P cs y h h1 h2 h3 => h.put hlt h1 h2 h3)
          generalize t[i]'hlt = x at p0 p1 p2 p3 p4 l3 g3 HTK HZX HBAD HTW HPUT
          have G3 := Go.Lib.hid g3
          have hxl : (x.f3.length : Int) ≤ 9223372036854775807 := by have := G3.out.2.1; omega
          have HA0 := Go.Lib.hid (hA.out.below (below_alloc (Below.refl _ _) (.cells #[.int .i64 x.f0, .int .i64 x.f1, .slice A2 x.f2.length c2, .slice A3 x.f3.length c3, .slice A4 x.f4.length c4] 28)))
          have HB1 := Go.Lib.hid (below_alloc hb.out (.cells #[.int .i64 x.f0, .int .i64 x.f1, .slice A2 x.f2.length c2, .slice A3 x.f3.length c3, .slice A4 x.f4.length c4] 28))
          clear hlt g3 l3 hA hb
          go_wp2_with fail
          go_loopg [33] x.f3.length (fun g_ v33 w' => ∃ (j : Nat) (P : List Int), Hid (j + g_ = x.f3.length) ∧ v33 = .int .i64 j ∧ Hid (badK i (x.f3.take j) = false) ∧ Hid (PS t P ((t.take i).flatMap S28.f3 ++ x.f3.take j)) ∧ Hid (IA w' w.heap.size P) ∧ Hid (Below w.heap.size w w'))
          case atStart => exact ⟨0, P, Go.Lib.hid (by omega), rfl, Go.Lib.hid rfl, Go.Lib.hid (by rw [List.take_zero, List.append_nil]; exact hP.out), HA0, HB1⟩
          case round =>
            clear p0 p1 p2 p3 p4 HA0 HB1 hP
            obtain ⟨j, P, hj, rfl, hbk, hP, hA, hb⟩ := hrel
            obtain ⟨wi, hwi⟩ : ∃ wi : World, wi = wr := ⟨_, rfl⟩
            subst hwi
            by_cases hlt : j < x.f3.length
            · have hlt2 : (j : Int) < (x.f3.length : Int) := by omega
              have hj0 : (0 : Int) ≤ (j : Int) := by omega
              obtain ⟨ad3, e_, q0⟩ := Kd.at_int (Kd.C_below G3.out hb.out) (j : Int) hj0 hlt2
              subst e_
              rw [rd_nat _ j hlt, Int.toNat_natCast] at q0
              have HTJ := Go.Lib.hid (List.take_succ_eq_append_getElem hlt)
              have HMJ := Go.Lib.hid (List.getElem_mem hlt)
              have HTW2 := Go.Lib.hid (fun (y : Nat) => HTW.out j y hlt)
              have HLJ := Go.Lib.hid hlt
              generalize x.f3[j]'hlt = y at q0 HTJ HMJ HTW2
              clear hlt
              by_cases hy0 : y < 0
              · have hd : decide (y < 0) = true := decide_eq_true hy0
                have HV3 := Go.Lib.hid (ParP.bad (v := .slice none 0 0) (HBAD.out (badK_true HMJ.out (Or.inl hy0))) hb.out)
                clear hy0
                go_wp2_with fail
                go_ret2
                exact HV3.out
              have hd : decide (y < 0) = false := decide_eq_false hy0
              by_cases hy1 : (i : Int) ≤ y
              · have hd1 : decide ((i : Int) ≤ y) = true := decide_eq_true hy1
                have HV3 := Go.Lib.hid (ParP.bad (v := .slice none 0 0) (HBAD.out (badK_true HMJ.out (Or.inr hy1))) hb.out)
                clear hy0 hy1
                go_wp2_with fail
                go_ret2
                exact HV3.out
              have hd1 : decide ((i : Int) ≤ y) = false := decide_eq_false hy1
              have HBK := Go.Lib.hid (show badK i (x.f3.take (j + 1)) = false by
                rw [HTJ.out]; unfold badK; rw [List.any_append]
                have h := hbk.out; unfold badK at h
                rw [h]; simp [hd, hd1])
              obtain ⟨yn, rfl⟩ : ∃ yn : Nat, y = yn := ⟨y.toNat, by omega⟩
              have hy2 : (0 : Int) ≤ (yn : Int) := by omega
              have hyi : (yn : Int) < (i : Int) := by omega
              have hd1' : decide (i ≤ yn) = false := decide_eq_false (by omega)
              have hy3 : (yn : Int) < (t.length : Int) := by omega
              obtain ⟨v, hv⟩ : ∃ v, P[yn]? = some v := ⟨_, List.getElem?_eq_getElem (by rw [hP.out.len]; omega)⟩
              have c1 := hA.out.cell yn hv
              have hf := hA.out.frozen yn
              have HNG := Go.Lib.hid (hP.out.neg (by omega) hv)
              have HYI := Go.Lib.hid (show yn < i by omega)
              clear hy0 hy1 hbk hv
              by_cases hv0 : 0 ≤ v
              · have hd4 : decide (0 ≤ v) = true := decide_eq_true hv0
                have HV3 := Go.Lib.hid (ParP.bad (v := .slice none 0 0) (HTW2.out yn rfl HYI.out (by have := HNG.out.2 hv0; omega)) hb.out)
                clear hv0
                go_wp2_with fail
                go_ret2
                exact HV3.out
              · have hd4 : decide (0 ≤ v) = false := decide_eq_false hv0
                have HP2 := Go.Lib.hid (show PS t (P.set yn (i : Int)) ((t.take i).flatMap S28.f3 ++ x.f3.take (j + 1)) by
                  have h := HPUT.out P _ yn hP.out HYI.out HMJ.out (HNG.out.1 (by omega)).1
                  rw [List.append_assoc, ← HTJ.out] at h
                  exact h)
                have HA2 := Go.Lib.hid (hA.out.put yn (i : Int))
                have HB2 := Go.Lib.hid (hb.out.setCell (p := ⟨w.heap.size, yn, none⟩) (Nat.le_refl _) (.int .i64 (i : Int)))
                clear hv0 hA hb hP
                go_wp2_with fail
                go_roundg (gk - 1)
                case measure => have := hj.out; have := HLJ.out; omega
                case rel => exact ⟨j + 1, _, Go.Lib.hid (by have := hj.out; have := HLJ.out; omega), by go_num, HBK, HP2, HA2, HB2⟩
            · have hd : decide ((j : Int) < (x.f3.length : Int)) = false := decide_eq_false (by omega)
              have hd2 : decide (j < x.f3.length) = false := decide_eq_false hlt
              have hd3 : ¬ (j : Int) < (x.f3.length : Int) := by omega
              have HJ := Go.Lib.hid (show x.f3.take j = x.f3 by rw [List.take_of_length_le (by omega)])
              rw [HJ.out] at hbk hP
              rw [← HTK.out] at hP
              have HZ2 := Go.Lib.hid (HZX.out hbk.out)
              clear hlt hj HJ
              go_wp2_with fail
              go_roundg (ga - 1)
              case measure => have := hi.out; have := HI.out; omega
              case rel => exact ⟨i + 1, P, Go.Lib.hid (by have := hi.out; have := HI.out; omega), by go_num, HZ2, hP, hA, hb⟩
        · have hd : decide ((i : Int) < (t.length : Int)) = false := decide_eq_false (by omega)
          have hd2 : decide (i < t.length) = false := decide_eq_false hlt
          have hd3 : ¬ (i : Int) < (t.length : Int) := by omega
          have HP2 := Go.Lib.hid (show PS t P (kidsT t) by have h := hP.out; rw [List.take_of_length_le (by omega)] at h; exact h)
          have HRB := Go.Lib.hid (rB_of (fun k hk => hz.out k hk (by omega)))
          clear hlt hz hP hi
          go_wp2_with fail
          go_loopg [60] (t.length - 1) (fun g_ v60 w' => ∃ k : Nat, Hid (k + g_ = t.length - 1) ∧ v60 = .int .i64 k ∧ Hid (∀ i, i < k → ∃ v, P[i]? = some v ∧ 0 ≤ v) ∧ w' = wo)
          case atStart => exact ⟨0, Go.Lib.hid (by omega), rfl, Go.Lib.hid (by omega), rfl⟩
          case round =>
            obtain ⟨k, hk, rfl, hone, rfl⟩ := hrel
            by_cases hlk : k < t.length - 1
            · have hlk' : (k : Int) < (t.length : Int) - 1 := by omega
              have hlk2 : (k : Int) < (t.length : Int) := by omega
              obtain ⟨v, hv⟩ : ∃ v, P[k]? = some v := ⟨_, List.getElem?_eq_getElem (by rw [HP2.out.len]; omega)⟩
              have c1 := hA.out.cell k hv
              have HNG := Go.Lib.hid (HP2.out.neg (by omega) hv)
              have HLK := Go.Lib.hid hlk
              have HON := Go.Lib.hid (show 0 ≤ v → ∀ i, i < k + 1 → ∃ v, P[i]? = some v ∧ 0 ≤ v from fun h i hi => by
                by_cases e : i = k
                · rw [e]; exact ⟨v, hv, h⟩
                · exact hone.out i (by omega))
              clear hlk hv
              by_cases hv0 : v < 0
              · have hd4 : decide (v < 0) = true := decide_eq_true hv0
                have HV3 := Go.Lib.hid (ParP.bad (v := .slice none 0 0) (treeB_none HLK.out (HNG.out.1 hv0).2) hb.out)
                clear hv0
                go_wp2_with fail
                go_ret2
                exact HV3.out
              · have hd4 : decide (v < 0) = false := decide_eq_false hv0
                have HN := Go.Lib.hid (HON.out (by omega))
                clear hv0
                go_wp2_with fail
                go_roundg (gk - 1)
                case measure => have := hk.out; have := HLK.out; omega
                case rel => exact ⟨k + 1, Go.Lib.hid (by have := hk.out; have := HLK.out; omega), by go_num, HN, rfl⟩
            · have hlk' : ¬ (k : Int) < (t.length : Int) - 1 := by omega
              have hd : decide ((k : Int) < (t.length : Int) - 1) = false := decide_eq_false hlk'
              by_cases h0 : 0 < t.length
              · have hd5 : decide (0 < t.length) = true := decide_eq_true h0
                have hd6 : decide ((0 : Int) < (t.length : Int)) = true := decide_eq_true (by omega)
                have HV3 := Go.Lib.hid (ParP.good (HP2.out.par h0 HRB.out (fun i hi => hone.out i (by omega))) hb.out hA.out)
                clear hlk h0
                go_wp2_with fail
                go_ret2
                exact HV3.out
              · have hd5 : decide (0 < t.length) = false := decide_eq_false h0
                have hd6 : decide ((0 : Int) < (t.length : Int)) = false := decide_eq_false (by omega)
                have HTF := Go.Lib.hid (show treeB t = false by unfold treeB; rw [decide_eq_false h0]; rfl)
                have HV3 := Go.Lib.hid (ParP.bad (v := .slice (some ⟨w.heap.size, 0, none⟩) t.length t.length) HTF.out hb.out)
                clear hlk h0
                go_wp2_with fail
                go_ret2
                exact HV3.out
end Go.Proofs.YtjhinklijopobaaDoor.Co
namespace Go.Proofs.YtjhinklijopobaaDoor.Co
open Go.RowKit Go.Proofs.YtjhinklijopobaaDoor.PCoreChecks Go.Proofs.YtjhinklijopobaaDoorW.PrintWords Go.Proofs.YtjhinklijopobaaDoorW.PrintLast Go.Proofs.YtjhinklijopobaaDoorW.PrintMore
set_option linter.unusedVariables false
set_option linter.unusedSimpArgs false

set_option maxHeartbeats 1000000 in
theorem in_calls (l : List Int) (A : Option Addr) (c : Nat) (n : Int) (w : World) (hC : Kd.C (Kd.int .i64) w A l.length l) :
    Calls Tryd.prog 51 #[.slice A l.length c, .int .i64 n] w fun e w' => e = .returned (.bool (decide (n ∈ l))) ∧ w' = w := by
  have HC := Go.Lib.hid hC
  have hl9 : (l.length : Int) ≤ 9223372036854775807 := by have := hC.2.1; omega
  clear hC
  go_enter Tryd.func51, Tryd.ntmps51
  go_wp2_with fail
  go_loopg [9] l.length (fun g_ v9 w' => ∃ i : Nat, Hid (i + g_ = l.length) ∧ v9 = .int .i64 i ∧ Hid (n ∉ l.take i) ∧ w' = w)
  case atStart => exact ⟨0, Go.Lib.hid (by omega), rfl, Go.Lib.hid (by simp), rfl⟩
  case round =>
    obtain ⟨i, hi, rfl, hn, rfl⟩ := hrel
    by_cases hlt : i < l.length
    · have hlt' : (i : Int) < (l.length : Int) := by omega
      have hi0 : (0 : Int) ≤ (i : Int) := by omega
      obtain ⟨ad, rfl, x0⟩ := Kd.at_int HC.out (i : Int) hi0 hlt'
      rw [rd_nat l i hlt, Int.toNat_natCast] at x0
      have HT := Go.Lib.hid (List.take_succ_eq_append_getElem hlt)
      have HM := Go.Lib.hid (List.getElem_mem hlt)
      have HLT := Go.Lib.hid hlt
      generalize l[i]'hlt = y at x0 HT HM
      clear hlt
      by_cases hy : y = n
      · have hb : (y == n) = true := beq_iff_eq.2 hy
        have HY := Go.Lib.hid hy
        clear hy
        go_wp2_with fail
        go_ret
        exact ⟨by rw [decide_eq_true (HY.out ▸ HM.out)]; rfl, rfl⟩
      · have hb : (y == n) = false := beq_eq_false_iff_ne.2 hy
        have HY := Go.Lib.hid hy
        clear hy
        go_wp2_with fail
        go_roundg (gk - 1)
        case measure => have := hi.out; have := HLT.out; omega
        case rel => exact ⟨i + 1, Go.Lib.hid (by have := hi.out; have := HLT.out; omega), by go_num, Go.Lib.hid (by rw [HT.out]; simp only [List.mem_append, List.mem_singleton, not_or]; exact ⟨hn.out, fun e => HY.out e.symm⟩), rfl⟩
    · have hd : decide ((i : Int) < (l.length : Int)) = false := decide_eq_false (by omega)
      have hd2 : decide (i < l.length) = false := decide_eq_false hlt
      have hd3 : ¬ (i : Int) < (l.length : Int) := by omega
      have HE := Go.Lib.hid (show n ∉ l by have h := hn.out; rw [List.take_of_length_le (by omega)] at h; exact h)
      go_wp2_with fail
      go_ret
      exact ⟨by rw [decide_eq_false HE.out]; rfl, rfl⟩

/-! ### Depths from the root -/
theorem deps_take (t : List S28) : ∀ i, i ≤ t.length → (deps t).take i = deps (t.take i) := by
  refine snoc_ind (P := fun t => ∀ i, i ≤ t.length → (deps t).take i = deps (t.take i)) (fun i hi => by simp at hi; subst hi; rfl) (fun l x ih i hi => ?_) t
  rw [List.length_append, List.length_singleton] at hi
  by_cases h : i = l.length + 1
  · subst h
    rw [List.take_of_length_le (by rw [deps_len]; simp), List.take_of_length_le (l := l ++ [x]) (by simp)]
  · rw [deps_snoc, List.take_append_of_le_length (by rw [deps_len]; omega), List.take_append_of_le_length (by omega)]
    exact ih i (by omega)
theorem deps_rd (t : List S28) (i c : Nat) (hi : i ≤ t.length) (hc : c < i) : rd (deps (t.take i)) c = rd (deps t) c := by
  rw [← deps_take t i hi]
  unfold rd
  rw [Int.toNat_natCast, List.getD_eq_getElem?_getD, List.getD_eq_getElem?_getD, List.getElem?_take, if_pos hc]
theorem mxk_congr {d d' : List Int} : ∀ (ks : List Int) (m : Int), (∀ k ∈ ks, rd d k = rd d' k) → mxk d ks m = mxk d' ks m
  | [], m, _ => rfl
  | k :: ks, m, h => by
    show mxk d ks (if m < rd d k then rd d k else m) = mxk d' ks (if m < rd d' k then rd d' k else m)
    rw [h k (by simp)]
    exact mxk_congr ks _ (fun x hx => h x (by simp [hx]))
theorem deps_at {t : List S28} (hr : rB t = true) (i : Nat) (hi : i < t.length) : rd (deps t) i = mxk (deps t) (t[i]'hi).f3 0 + 1 := by
  have h1 : rd (deps (t.take (i + 1))) i = mxk (deps (t.take i)) (t[i]'hi).f3 0 + 1 := by
    rw [List.take_succ_eq_append_getElem hi, deps_snoc]
    have hl2 : (deps (t.take i)).length = i := by rw [deps_len, List.length_take]; omega
    unfold rd
    rw [Int.toNat_natCast, List.getD_eq_getElem?_getD, List.getElem?_append_right (by omega), hl2, Nat.sub_self]; rfl
  rw [← deps_rd t (i + 1) i (by omega) (by omega), h1]
  congr 1
  refine mxk_congr _ _ (fun k hk => ?_)
  obtain ⟨h2, h3⟩ := badK_mem (rB_at hr i hi) hk
  obtain ⟨kn, rfl⟩ : ∃ kn : Nat, k = kn := ⟨k.toNat, by omega⟩
  exact deps_rd t i kn (by omega) (by omega)
theorem mxk_ge (d : List Int) : ∀ (ks : List Int) (m : Int), m ≤ mxk d ks m ∧ ∀ k ∈ ks, rd d k ≤ mxk d ks m
  | [], m => ⟨Int.le_refl _, fun k hk => by cases hk⟩
  | k :: ks, m => by
    obtain ⟨h1, h2⟩ := mxk_ge d ks (if m < rd d k then rd d k else m)
    have e : mxk d (k :: ks) m = mxk d ks (if m < rd d k then rd d k else m) := rfl
    rw [e]
    have h3 : m ≤ (if m < rd d k then rd d k else m) ∧ rd d k ≤ (if m < rd d k then rd d k else m) := by split <;> omega
    refine ⟨by omega, fun x hx => ?_⟩
    rcases List.mem_cons.1 hx with rfl | hx
    · omega
    · exact h2 x hx
theorem mxk_is (d : List Int) : ∀ (ks : List Int) (m : Int), mxk d ks m = m ∨ ∃ k ∈ ks, mxk d ks m = rd d k
  | [], m => Or.inl rfl
  | k :: ks, m => by
    have e : mxk d (k :: ks) m = mxk d ks (if m < rd d k then rd d k else m) := rfl
    rw [e]
    rcases mxk_is d ks (if m < rd d k then rd d k else m) with h | ⟨x, hx, h⟩
    · rw [h]
      split
      · exact Or.inr ⟨k, by simp, rfl⟩
      · exact Or.inl rfl
    · exact Or.inr ⟨x, by simp [hx], h⟩
theorem treeB_parts {t : List S28} (h : treeB t = true) : 0 < t.length ∧ rB t = true ∧ ∀ i, i < t.length - 1 → (kidsT t).count (i : Int) = 1 := by
  unfold treeB at h
  simp only [Bool.and_eq_true, decide_eq_true_eq, List.all_eq_true] at h
  exact ⟨h.1, h.2.1, fun i hi => h.2.2 i (List.mem_range.2 hi)⟩
theorem deps_pos {t : List S28} (hr : rB t = true) (i : Nat) (hi : i < t.length) : 1 ≤ rd (deps t) i := by
  rw [deps_at hr i hi]
  have := (mxk_ge (deps t) (t[i]'hi).f3 0).1
  omega
/-- A kid has one parent. -/
theorem one_parent {t : List S28} (h : treeB t = true) {k i j : Nat} (hi : i < t.length) (hj : j < t.length) (h1 : (k : Int) ∈ (t[i]'hi).f3) (h2 : (k : Int) ∈ (t[j]'hj).f3) : i = j := by
  obtain ⟨h0, hr, hone⟩ := treeB_parts h
  have hk := badK_mem (rB_at hr i hi) h1
  have hc := hone k (by omega)
  have key : ∀ (a b : Nat) (ha : a < t.length) (hb : b < t.length), a < b → (k : Int) ∈ (t[a]'ha).f3 → (k : Int) ∈ (t[b]'hb).f3 → False := by
    intro a b ha hb hab h3 h4
    have e : kidsT t = (t.take b).flatMap S28.f3 ++ (t.drop b).flatMap S28.f3 := by
      unfold kidsT; rw [← List.flatMap_append, List.take_append_drop]
    have c1 : 1 ≤ ((t.take b).flatMap S28.f3).count (k : Int) := List.count_pos_iff.2 (List.mem_flatMap.2 ⟨t[a]'ha, List.mem_take_iff_getElem.2 ⟨a, by omega, rfl⟩, h3⟩)
    have c2 : 1 ≤ ((t.drop b).flatMap S28.f3).count (k : Int) := List.count_pos_iff.2 (List.mem_flatMap.2 ⟨t[b]'hb, by rw [List.drop_eq_getElem_cons hb]; exact List.mem_cons_self, h4⟩)
    rw [e, List.count_append] at hc
    omega
  rcases Nat.lt_trichotomy i j with h3 | h3 | h3
  · exact (key i j hi hj h3 h1 h2).elim
  · exact h3
  · exact (key j i hj hi h3 h2 h1).elim
/-- How far it is to the root. -/
inductive Dd (P : List Int) : Int → Int → Prop
  | stop : Dd P (-1) 0
  | up (k : Nat) (p d : Int) : P[k]? = some p → Dd P p d → Dd P k (d + 1)
theorem Dd.of_root {t : List S28} {P : List Int} (h : Par t P) : Dd P ((t.length - 1 : Nat) : Int) 1 := Dd.up _ (-1) 0 h.root Dd.stop
theorem Dd.at_ {t : List S28} {P : List Int} (h : Par t P) : ∀ (m k : Nat), k < t.length → t.length - k ≤ m → ∃ d, Dd P k d ∧ 1 ≤ d ∧ d + rd (deps t) k - 1 ≤ heightT t ∧ d ≤ (t.length : Int) - k := by
  obtain ⟨h0, hr, hone⟩ := treeB_parts h.tree
  intro m
  induction m with
  | zero => intro k hk hm; omega
  | succ m ih =>
    intro k hk hm
    by_cases e : k = t.length - 1
    · subst e
      refine ⟨1, Dd.of_root h, by omega, ?_, by omega⟩
      unfold heightT
      rw [show ((t.length : Int) - 1) = ((t.length - 1 : Nat) : Int) by omega]
      omega
    · obtain ⟨i, hi, h1, h2, h3⟩ := h.up k (by omega)
      obtain ⟨d, h4, h5, h6, h7⟩ := ih i hi (by omega)
      refine ⟨d + 1, Dd.up k i d h1 h4, by omega, ?_, by omega⟩
      have h8 := (mxk_ge (deps t) (t[i]'hi).f3 0).2 _ h3
      have h9 := deps_at hr i hi
      omega
theorem Dd.deep {t : List S28} {P : List Int} (h : Par t P) : ∀ (m i : Nat), i < m → i < t.length → ∀ d, Dd P i d → ∃ k, k < t.length ∧ Dd P k (d + rd (deps t) i - 1) := by
  obtain ⟨h0, hr, hone⟩ := treeB_parts h.tree
  intro m
  induction m with
  | zero => intro i hi; omega
  | succ m ih =>
    intro i him hi d hd
    have h9 := deps_at hr i hi
    rcases mxk_is (deps t) (t[i]'hi).f3 0 with h1 | ⟨c, hc, h1⟩
    · exact ⟨i, hi, by rw [h9, h1]; rw [show d + (0 + 1) - 1 = d by omega]; exact hd⟩
    · obtain ⟨h2, h3⟩ := badK_mem (rB_at hr i hi) hc
      obtain ⟨cn, rfl⟩ : ∃ cn : Nat, c = cn := ⟨c.toNat, by omega⟩
      obtain ⟨j, hj, h4, h5, h6⟩ := h.up cn (by omega)
      have e := one_parent h.tree hj hi h6 hc
      subst e
      obtain ⟨k, hk, h7⟩ := ih cn (by omega) (by omega) (d + 1) (Dd.up cn j d h4 hd)
      exact ⟨k, hk, by rw [h9, h1]; rw [show d + (rd (deps t) cn + 1) - 1 = d + 1 + rd (deps t) cn - 1 by omega]; exact h7⟩
theorem Dd.fn {P : List Int} {k d : Int} (h : Dd P k d) : ∀ d', Dd P k d' → d = d' := by
  induction h with
  | stop =>
    intro d' h'
    cases h' with
    | stop => rfl
  | up k p d hp _ ih =>
    intro d' h'
    cases h' with
    | up _ p' d'' hp' hd' =>
      rw [hp] at hp'
      obtain rfl := Option.some.inj hp'
      rw [ih _ hd']
theorem Dd.nonneg {P : List Int} {k d : Int} (h : Dd P k d) : 0 ≤ d := by
  induction h with
  | stop => omega
  | up _ _ _ _ _ ih => omega
theorem rd_of {P : List Int} {k : Nat} {v : Int} (h : P[k]? = some v) : rd P k = v := by
  unfold rd
  rw [Int.toNat_natCast, List.getD_eq_getElem?_getD, h]; rfl
/-- The way up is counted. -/
theorem depth_l1 {P : List Int} {cur d : Int} (h : Dd P cur d) : ∀ (n x5 x10 x11 : Int) (r : Int), 0 ≤ n → n + d ≤ 5000 → 0 ≤ d → Evs (fun k => provenanceref2_Depth.l0 k P (mx x5 (n + d)) x10 (wrap64 (x11 + 1))) r →
    Evs (fun k => provenanceref2_Depth.l1 k P x5 n cur x10 x11) r := by
  induction h with
  | stop =>
    intro n x5 x10 x11 r hn hd _ he
    refine Evs.step he fun k => ?_
    simp only [provenanceref2_Depth.l1]
    rw [if_neg (by decide), show n + 0 = n by omega]
  | up k p d hp hq ih =>
    intro n x5 x10 x11 r hn hd hd0 he
    have hd1 : 0 ≤ d := hq.nonneg
    have hlen := (List.getElem?_eq_some_iff.1 hp).1
    refine Evs.step (ih (n + 1) x5 x10 x11 r (by omega) (by omega) hd1 (by rw [show n + 1 + d = n + (d + 1) by omega]; exact he)) fun m => ?_
    simp only [provenanceref2_Depth.l1]
    rw [if_pos (by omega), if_pos (by omega), if_pos (by omega), rd_of hp, wrap_small (x := n + 1) (by omega) (by omega)]
theorem depth_l0 {t : List S28} {P : List Int} (h : Par t P) (hn : t.length ≤ 4096) : ∀ (m i : Nat) (M : Int), i + m = t.length → 0 ≤ M → M ≤ heightT t → (M = heightT t ∨ ∃ k : Nat, i ≤ k ∧ k < t.length ∧ Dd P k (heightT t)) →
    Evs (fun k => provenanceref2_Depth.l0 k P M ((t.length : Nat) : Int) (i : Int)) (heightT t) := by
  obtain ⟨h0, hr, hone⟩ := treeB_parts h.tree
  intro m
  induction m with
  | zero =>
    intro i M hi h1 h2 h3
    refine Evs.now fun k => ?_
    simp only [provenanceref2_Depth.l0]
    rw [if_neg (by omega)]
    rcases h3 with h3 | ⟨k, h4, h5, _⟩
    · rw [h3]
    · omega
  | succ m ih =>
    intro i M hi h1 h2 h3
    obtain ⟨d, hd, hd1, hd2, hd3⟩ := Dd.at_ h t.length i (by omega) (by omega)
    have hp := deps_pos hr i (by omega)
    have hdH : d ≤ heightT t := by omega
    have hw : wrap64 ((i : Int) + 1) = ((i + 1 : Nat) : Int) := by rw [wrap_small (by omega) (by omega)]; omega
    refine Evs.step (depth_l1 hd 0 M ((t.length : Nat) : Int) (i : Int) (heightT t) (by omega) (by omega) (by omega) ?_) fun k => ?_
    · rw [hw]
      have e : mx M (0 + d) = if M < d then d else M := by unfold mx; rw [show (0 : Int) + d = d by omega]
      rw [e]
      refine ih (i + 1) _ (by omega) (by split <;> omega) (by split <;> omega) ?_
      rcases h3 with h3 | ⟨k, h4, h5, h6⟩
      · left; rw [if_neg (by omega)]; exact h3
      · by_cases hk : k = i
        · subst hk
          left
          have := Dd.fn hd _ h6
          split <;> omega
        · exact Or.inr ⟨k, by omega, h5, h6⟩
    · simp only [provenanceref2_Depth.l0]
      rw [if_pos (by omega)]
/-- The depth of a tree is its height. -/
theorem depth_f {t : List S28} {P : List Int} (h : Par t P) (hn : t.length ≤ 4096) : Evs (fun k => provenanceref2_Depth.f k t P) (heightT t) := by
  obtain ⟨h0, hr, hone⟩ := treeB_parts h.tree
  have hroot : heightT t = rd (deps t) ((t.length - 1 : Nat) : Int) := by
    unfold heightT
    rw [show ((t.length : Int) - 1) = ((t.length - 1 : Nat) : Int) by omega]
  have hH : 0 ≤ heightT t := by have := deps_pos hr (t.length - 1) (by omega); omega
  obtain ⟨k, hk, hd⟩ := Dd.deep h t.length (t.length - 1) (by omega) (by omega) 1 (Dd.of_root h)
  rw [← hroot, show 1 + heightT t - 1 = heightT t by omega] at hd
  exact (depth_l0 h hn t.length 0 0 (by omega) (Int.le_refl _) hH (Or.inr ⟨k, Nat.zero_le _, hk, hd⟩)).same fun k => rfl
theorem depth_calls {t : List S28} {P : List Int} (h : Par t P) (hn : t.length ≤ 4096) (A0 : Option Addr) (c0 g : Nat) (w : World) (hr : Kd.C k28 w A0 t.length t) (hc : t.length ≤ c0) (hA : IA w g P) :
    Calls Tryd.prog 75 #[.slice A0 t.length c0, .slice (some ⟨g, 0, none⟩) t.length t.length] w fun e w' => e = .returned (.int .i64 (heightT t)) ∧ Below w.heap.size w w' := by
  obtain ⟨K, hK⟩ := depth_f h hn
  have hP : Kd.C (Kd.int .i64) w (some ⟨g, 0, none⟩) P.length P := by
    refine Kd.C_of_reads (d := 0) (h1 := fun _ => rfl) ⟨rfl, by have := h.len; omega, fun _ => ⟨_, rfl, fun j hj => ?_⟩⟩
    rw [add_plain]
    exact hA.cell j (by rw [List.getD_eq_getElem?_getD, List.getElem?_eq_getElem hj]; rfl)
  have h2 := provenanceref2_Depth.calls K A0 c0 t (some ⟨g, 0, none⟩) t.length P (heightT t) w hr hc hP (by rw [h.len]; exact Nat.le_refl _) (hK K (Nat.le_refl _))
  rw [h.len] at h2
  exact h2
end Go.Proofs.YtjhinklijopobaaDoor.Co
