import Derived.Test.YtemdfhaceddmpaaTa
namespace Go.Proofs.Ytemdfhaceddmpaa.Tr
open Go.Shelf Go.RowKit Go.Proofs.Ytemdfhaceddmpaa.PPrinterTells Go.Proofs.YtemdfhaceddmpaaW.PrintWords Go.Proofs.YtemdfhaceddmpaaW.PrintLast Go.Proofs.YtemdfhaceddmpaaW.PrintMore
set_option linter.unusedVariables false
set_option linter.unusedSimpArgs false

/-- A block that holds just these numbers. -/
def IA (W : World) (g : Nat) (xs : List Int) : Prop := W.heap[g]? = some (.cells (xs.map (Value.int .i64)).toArray 3 (0, 0))
theorem IA.cell {W : World} {g : Nat} {xs : List Int} (h : IA W g xs) (j : Nat) {x : Int} (hx : xs[j]? = some x) : W.cell? ⟨g, j, none⟩ = some (.int .i64 x) := by
  rw [blk_cell h]
  simp [hx]
theorem IA.frozen {W : World} {g : Nat} {xs : List Int} (h : IA W g xs) (j : Nat) : W.frozen? ⟨g, j, none⟩ = false := blk_frozen h j
theorem IA.put {W : World} {g : Nat} {xs : List Int} (h : IA W g xs) (j : Nat) (x : Int) : IA (W.setCell ⟨g, j, none⟩ (.int .i64 x)) g (xs.set j x) := by
  refine blk_put h j _ ?_
  simp [List.map_set]
theorem IA.below {W W' : World} {g : Nat} {xs : List Int} (h : IA W g xs) (hb : Below W.heap.size W W') : IA W' g xs := blk_below h hb
theorem IA.drewN {W : World} {g : Nat} {xs : List Int} (h : IA W g xs) (n : Nat) : IA (W.drewN n) g xs := h
theorem IA.made (W : World) (m : Nat) : IA (W.alloc (.cells (madeCells #[.int .i64 0] m) 3)) W.heap.size (List.replicate m 0) := by
  unfold IA
  rw [blk_new]
  congr 2
  apply Array.ext'
  apply List.ext_getElem
  · simp [madeCells]
  · intro i h1 h2
    simp [madeCells, Nat.mod_one]

/-- The greatest depth of some kids. -/
def mxk (d : List Int) (ks : List Int) (m : Int) : Int := ks.foldl (fun m x => if m < rd d x then rd d x else m) m
/-- The depths of the nodes. -/
def deps (t : List S27) : List Int := t.foldl (fun d n => d ++ [mxk d n.f3 0 + 1]) []
theorem deps_snoc (t : List S27) (n : S27) : deps (t ++ [n]) = deps t ++ [mxk (deps t) n.f3 0 + 1] := by simp [deps]
theorem snoc_ind {α : Type} {P : List α → Prop} (h0 : P []) (h1 : ∀ l x, P l → P (l ++ [x])) (l : List α) : P l := by
  have h : ∀ n (l : List α), l.length = n → P l := by
    intro n
    induction n with
    | zero => intro l hl; rw [List.eq_nil_of_length_eq_zero hl]; exact h0
    | succ n ih =>
      intro l hl
      have hne : l ≠ [] := by rintro rfl; simp at hl
      rw [← List.dropLast_concat_getLast hne]
      exact h1 _ _ (ih _ (by simp [hl]))
  exact h _ l rfl
theorem deps_len (t : List S27) : (deps t).length = t.length := by
  refine snoc_ind (P := fun t => (deps t).length = t.length) rfl (fun t n ih => ?_) t
  rw [deps_snoc]; simp [ih]
theorem mxk_snoc (d ks : List Int) (x m : Int) : mxk d (ks ++ [x]) m = if mxk d ks m < rd d x then rd d x else mxk d ks m := by
  unfold mxk; rw [List.foldl_append]; rfl
theorem rd_bound {d : List Int} {B : Int} (h0 : 0 ≤ B) (h : ∀ y ∈ d, 0 ≤ y ∧ y ≤ B) (x : Int) : 0 ≤ rd d x ∧ rd d x ≤ B := by
  unfold rd
  rw [List.getD_eq_getElem?_getD]
  cases e : d[x.toNat]? with
  | none => simpa using h0
  | some y => simpa using h y (List.mem_of_getElem? e)
theorem mxk_bound {d : List Int} {B : Int} (h0 : 0 ≤ B) (h : ∀ y ∈ d, 0 ≤ y ∧ y ≤ B) (ks : List Int) : 0 ≤ mxk d ks 0 ∧ mxk d ks 0 ≤ B := by
  refine snoc_ind (P := fun ks => 0 ≤ mxk d ks 0 ∧ mxk d ks 0 ≤ B) ⟨Int.le_refl 0, h0⟩ (fun ks x ih => ?_) ks
  rw [mxk_snoc]
  split
  · exact rd_bound h0 h x
  · exact ih
theorem deps_bound (t : List S27) : ∀ y ∈ deps t, 0 ≤ y ∧ y ≤ (t.length : Int) := by
  refine snoc_ind (P := fun t => ∀ y ∈ deps t, 0 ≤ y ∧ y ≤ (t.length : Int)) (by simp [deps]) (fun t n ih => ?_) t
  intro y hy
  rw [deps_snoc, List.mem_append, List.mem_singleton] at hy
  rw [List.length_append, List.length_singleton]
  rcases hy with hy | rfl
  · have := ih y hy; omega
  · have := mxk_bound (by omega) ih n.f3; omega
/-- The array of depths in the round of node k, when the depth so far is m. -/
def dar (t : List S27) (k : Nat) (m : Int) (n : Nat) : List Int := deps (t.take k) ++ m :: List.replicate (n - k - 1) 0
theorem dar_len (t : List S27) (k n : Nat) (m : Int) (hk : k < n) (ht : k ≤ t.length) : (dar t k m n).length = n := by
  simp [dar, deps_len]; omega
theorem dar_old (t : List S27) (k n : Nat) (m : Int) (x : Int) (h0 : 0 ≤ x) (h1 : x < k) (ht : k ≤ t.length) : (dar t k m n)[x.toNat]? = some (rd (deps (t.take k)) x) := by
  have hl : x.toNat < (deps (t.take k)).length := by rw [deps_len, List.length_take]; omega
  rw [dar, List.getElem?_append_left hl, List.getElem?_eq_getElem hl]
  unfold rd
  rw [List.getD_eq_getElem?_getD, List.getElem?_eq_getElem hl]; rfl
theorem dar_at (t : List S27) (k n : Nat) (m : Int) (ht : k ≤ t.length) : (dar t k m n)[k]? = some m := by
  have hl : (deps (t.take k)).length = k := by rw [deps_len, List.length_take]; omega
  rw [dar, List.getElem?_append_right (by omega), hl, Nat.sub_self]; rfl
theorem dar_set (t : List S27) (k n : Nat) (m m' : Int) (ht : k ≤ t.length) : (dar t k m n).set k m' = dar t k m' n := by
  have hl : (deps (t.take k)).length = k := by rw [deps_len, List.length_take]; omega
  rw [dar, List.set_append_right _ _ (by omega), hl, Nat.sub_self]; rfl
theorem dar_next (t : List S27) (k n : Nat) (ht : k < t.length) (hk : k + 1 < n) (h : (t[k]).f3 = (t[k]).f3) : dar t k (mxk (deps (t.take k)) (t[k]).f3 0 + 1) n = dar t (k + 1) 0 n := by
  unfold dar
  rw [List.take_succ_eq_append_getElem ht, deps_snoc, List.append_assoc]
  congr 1
  have : n - k - 1 = (n - (k + 1) - 1) + 1 := by omega
  rw [this, List.replicate_succ]; rfl
theorem dar_last (t : List S27) (k n : Nat) (ht : k < t.length) (hk : k + 1 = n) : dar t k (mxk (deps (t.take k)) (t[k]).f3 0 + 1) n = deps (t.take (k + 1)) := by
  unfold dar
  rw [List.take_succ_eq_append_getElem ht, deps_snoc]
  have : n - k - 1 = 0 := by omega
  rw [this]; rfl
theorem dar_start (t : List S27) (n : Nat) (hn : 0 < n) : List.replicate n 0 = dar t 0 0 n := by
  obtain ⟨m, rfl⟩ : ∃ m, n = m + 1 := ⟨n - 1, by omega⟩
  simp [dar, deps, List.replicate_succ]
end Go.Proofs.Ytemdfhaceddmpaa.Tr
