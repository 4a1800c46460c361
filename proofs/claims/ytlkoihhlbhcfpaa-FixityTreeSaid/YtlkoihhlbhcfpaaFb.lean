import Derived.Test.YtlkoihhlbhcfpaaFa
namespace Go.Proofs.Ytlkoihhlbhcfpaa.Fx
open Go.RowKit Go.Proofs.Ytlkoihhlbhcfpaa.PFixityTree Go.Proofs.YtlkoihhlbhcfpaaW.PrintWords Go.Proofs.YtlkoihhlbhcfpaaW.PrintLast Go.Proofs.YtlkoihhlbhcfpaaW.PrintMore
set_option linter.unusedVariables false
set_option linter.unusedSimpArgs false

/-- An operator of a sequence and the operand behind it. -/
def mkO (T : List S42) (o i : S29) : O := ⟨o.f0, (fx o.f0 T).1, (fx o.f0 T).2, i.f1⟩
/-- The operators of what is behind the first operand. -/
def ops (T : List S42) : List S29 → List O
  | o :: i :: r => mkO T o i :: ops T r
  | _ => []
/-- A sequence's operators. -/
def opl (T : List S42) (l : List S29) : List O := ops T (l.drop 1)
def hd (l : List S29) : Int := (rd_T29 l 0).f1

theorem rd29 {l : List S29} {i : Nat} (h : i < l.length) : rd_T29 l (i : Int) = l[i] := by
  unfold rd_T29
  rw [Int.toNat_natCast, List.getD_eq_getElem?_getD, List.getElem?_eq_getElem h]
  rfl
theorem drop29 {l : List S29} {i : Nat} (h : i < l.length) : l.drop i = rd_T29 l (i : Int) :: l.drop (i + 1) := by
  rw [List.drop_eq_getElem_cons h, rd29 h]

theorem ops_two {T : List S42} {l : List S29} {j : Nat} (h : 2 * j + 2 < l.length) : ops T (l.drop (2 * j + 1)) = mkO T (rd_T29 l ((2 * j + 1 : Nat) : Int)) (rd_T29 l ((2 * j + 2 : Nat) : Int)) :: ops T (l.drop (2 * (j + 1) + 1)) := by
  rw [drop29 (by omega : 2 * j + 1 < l.length), drop29 (by omega : 2 * j + 1 + 1 < l.length), ops, show 2 * (j + 1) + 1 = 2 * j + 1 + 1 + 1 by omega]
theorem ops_end {T : List S42} {l : List S29} {j : Nat} (h : l.length = 2 * j + 1) : ops T (l.drop (2 * j + 1)) = [] := by
  rw [List.drop_eq_nil_of_le (by omega)]; rfl

theorem opl_drop {T : List S42} {l : List S29} {m : Nat} (hl : l.length = 2 * m + 1) : ∀ (d j : Nat), j + d = m → (opl T l).drop j = ops T (l.drop (2 * j + 1)) ∧ (opl T l).length = m := by
  have key : ∀ (d j : Nat), j + d = m → (ops T (l.drop (2 * j + 1))).length = d := by
    intro d
    induction d with
    | zero => intro j hj; rw [ops_end (by omega)]; rfl
    | succ d ih => intro j hj; rw [ops_two (by omega), List.length_cons, ih (j + 1) (by omega)]
  have hlen : (opl T l).length = m := key m 0 (by omega)
  intro d j hj
  refine ⟨?_, hlen⟩
  clear hj d
  induction j with
  | zero => rfl
  | succ j ih =>
    by_cases h : j < m
    · rw [← List.drop_drop, ih, ops_two (by omega)]
      rfl
    · rw [List.drop_eq_nil_of_le (by omega), List.drop_eq_nil_of_le (by omega)]
      rfl
theorem opl_length {T : List S42} {l : List S29} {m : Nat} (hl : l.length = 2 * m + 1) : (opl T l).length = m := (opl_drop hl m 0 (by omega)).2
theorem opl_get {T : List S42} {l : List S29} {m j : Nat} (hl : l.length = 2 * m + 1) (hj : j < m) : (opl T l)[j]? = some (mkO T (rd_T29 l ((2 * j + 1 : Nat) : Int)) (rd_T29 l ((2 * j + 2 : Nat) : Int))) := by
  have h := (opl_drop (T := T) hl (m - j) j (by omega)).1
  rw [ops_two (by omega)] at h
  have := congrArg (fun x => x[0]?) h
  simpa [List.getElem?_drop] using this

theorem opl_drop2 {T : List S42} {l : List S29} {m k : Nat} (hl : l.length = 2 * m + 1) (hk : k < m) : opl T (l.drop (2 * k + 2)) = (opl T l).drop (k + 1) ∧ hd (l.drop (2 * k + 2)) = (rd_T29 l ((2 * k + 2 : Nat) : Int)).f1 ∧ (l.drop (2 * k + 2)).length = 2 * (m - k - 1) + 1 := by
  refine ⟨?_, ?_, by rw [List.length_drop]; omega⟩
  · rw [(opl_drop (T := T) hl (m - (k + 1)) (k + 1) (by omega)).1, opl, List.drop_drop, show 2 * (k + 1) + 1 = 2 * k + 2 + 1 by omega]
  · unfold hd rd_T29
    rw [Int.toNat_natCast]
    simp [List.getD_eq_getElem?_getD, List.getElem?_drop]
theorem ops_take (T : List S42) : ∀ (k : Nat) (r : List S29), ops T (r.take (2 * k)) = (ops T r).take k
  | 0, r => by simp [ops]
  | k + 1, [] => by simp [ops]
  | k + 1, [o] => by
    rw [List.take_of_length_le (by simp; omega)]
    simp [ops]
  | k + 1, o :: i :: r => by
    rw [show 2 * (k + 1) = 2 * k + 1 + 1 by omega, List.take_succ_cons, List.take_succ_cons, ops, ops_take T k r, ops, List.take_succ_cons]
theorem opl_take {T : List S42} {l : List S29} {m k : Nat} (hl : l.length = 2 * m + 1) (hk : k < m) : opl T (l.take (2 * k + 1)) = (opl T l).take k ∧ hd (l.take (2 * k + 1)) = hd l ∧ (l.take (2 * k + 1)).length = 2 * k + 1 := by
  refine ⟨?_, ?_, by rw [List.length_take]; omega⟩
  · cases l with
    | nil => simp at hl
    | cons h r =>
      rw [opl, opl, List.take_succ_cons]
      simp only [List.drop_succ_cons, List.drop_zero]
      exact ops_take T k r
  · unfold hd rd_T29
    simp [List.getD_eq_getElem?_getD, List.getElem?_take]

/-- The least level. -/
def minL : List O → Int
  | [] => 10
  | x :: l => if x.level < minL l then x.level else minL l
/-- One more level. -/
def lower (a b : Int) : Int := if b < a then b else a
theorem minL_snoc (l : List O) (x : O) : minL (l ++ [x]) = lower (minL l) x.level ∧ (minL (l ++ [x]) ≤ x.level) := by
  induction l with
  | nil => exact ⟨rfl, show (if x.level < 10 then x.level else 10) ≤ x.level by by_cases h : x.level < 10 <;> simp only [h, if_true, if_false] <;> omega⟩
  | cons y l ih =>
    obtain ⟨h1, h2⟩ := ih
    simp only [List.cons_append, minL, h1]
    unfold lower at *
    constructor <;> (repeat' split) <;> omega
theorem minL_le {l : List O} : ∀ x ∈ l, minL l ≤ x.level := by
  induction l with
  | nil => intro x hx; cases hx
  | cons y l ih =>
    intro x hx
    rw [minL]
    rcases List.mem_cons.1 hx with rfl | hx
    · split <;> omega
    · have := ih x hx
      split <;> omega
theorem minL_mem {l : List O} (h : l ≠ []) (hl : ∀ x ∈ l, x.level ≤ 9) : ∃ x ∈ l, x.level = minL l := by
  induction l with
  | nil => exact absurd rfl h
  | cons y l ih =>
    rw [minL]
    by_cases hy : y.level < minL l
    · rw [if_pos hy]; exact ⟨y, by simp, rfl⟩
    · rw [if_neg hy]
      by_cases hn : l = []
      · subst hn
        have := hl y (by simp)
        simp [minL] at hy
        omega
      · obtain ⟨x, hx, he⟩ := ih hn (fun x hx => hl x (by simp [hx]))
        exact ⟨x, by simp [hx], he⟩

/-- The state of the reference's second loop behind j operators. -/
def Sel (L : Int) (l : List O) (j : Nat) (at_ many side : Int) : Prop :=
  (at_ = -1 ∧ many = 0 ∧ side = -1 ∧ ∀ y ∈ l.take j, y.level ≠ L) ∨
  (∃ p x q, l = p ++ x :: q ∧ p.length < j ∧ x.level = L ∧ at_ = 2 * (p.length : Int) + 1 ∧ side = x.side ∧ 1 ≤ many ∧ many ≤ j ∧
    (∀ y ∈ l.take j, y.level = L → y.side = x.side) ∧
    (∀ y ∈ p, y.level = L → x.side = 0 ∨ (2 ≤ many ∧ x.side = 2)) ∧
    (∀ y ∈ q.take (j - p.length - 1), y.level = L → x.side ≠ 0 ∧ (x.side = 2 → 2 ≤ many)) ∧
    (2 ≤ many → x.side = 2 → Conf l))

theorem sel_start (L : Int) (l : List O) : Sel L l 0 (-1) 0 (-1) := .inl ⟨rfl, rfl, rfl, fun y hy => by simp at hy⟩

theorem take_snocO {l : List O} {j : Nat} {z : O} (h : l[j]? = some z) : l.take (j + 1) = l.take j ++ [z] := by
  rw [List.take_add_one, h]; rfl
theorem split_at {l : List O} {j : Nat} {z : O} (h : l[j]? = some z) : l = l.take j ++ z :: l.drop (j + 1) ∧ (l.take j).length = j := by
  obtain ⟨hj, he⟩ := List.getElem?_eq_some_iff.1 h
  refine ⟨?_, by rw [List.length_take]; omega⟩
  rw [← he, ← List.drop_eq_getElem_cons hj, List.take_append_drop]
theorem take_in {p q : List O} {x : O} {j : Nat} (h : p.length < j) : (p ++ x :: q).take j = p ++ x :: q.take (j - p.length - 1) := by
  rw [List.take_append, List.take_of_length_le (by omega), show j - p.length = (j - p.length - 1) + 1 by omega, List.take_succ_cons]
  rfl
theorem get_in {p q : List O} {x z : O} {j : Nat} (h : p.length < j) (hz : (p ++ x :: q)[j]? = some z) : q[j - p.length - 1]? = some z := by
  rw [List.getElem?_append_right (by omega), show j - p.length = (j - p.length - 1) + 1 by omega, List.getElem?_cons_succ] at hz
  exact hz
/-- Two of the least level that don't agree. -/
theorem conf_of {L : Int} {p q : List O} {x z : O} {i : Nat} (hmin : ∀ y ∈ p ++ x :: q, L ≤ y.level) (hx : x.level = L) (hz : q[i]? = some z) (hzl : z.level = L) (hs : z.side ≠ x.side ∨ z.side = 2) : Conf (p ++ x :: q) := by
  obtain ⟨he, -⟩ := split_at hz
  refine ⟨p, x, q.take i, z, q.drop (i + 1), by rw [← he], fun y hy => ?_, by omega, hs⟩
  have := hmin y (by rw [List.mem_append, List.mem_cons]; exact .inr (.inr (List.mem_of_mem_take hy)))
  omega

theorem sel_skip {L : Int} {l : List O} {j : Nat} {a m s : Int} {z : O} (h : Sel L l j a m s) (hz : l[j]? = some z) (hl : z.level ≠ L) : Sel L l (j + 1) a m s := by
  rcases h with ⟨h1, h2, h3, h4⟩ | ⟨p, x, q, rfl, hp, hx, ha, hs, h1, hm, h2, h3, h4, h5⟩
  · refine .inl ⟨h1, h2, h3, ?_⟩
    rw [take_snocO hz]
    intro y hy
    rcases List.mem_append.1 hy with hy | hy
    · exact h4 y hy
    · rw [List.mem_singleton] at hy; rw [hy]; exact hl
  · refine .inr ⟨p, x, q, rfl, by omega, hx, ha, hs, h1, by omega, ?_, h3, ?_, h5⟩
    · rw [take_snocO hz]
      intro y hy hyl
      rcases List.mem_append.1 hy with hy | hy
      · exact h2 y hy hyl
      · rw [List.mem_singleton] at hy; rw [hy] at hyl; exact absurd hyl hl
    · rw [show j + 1 - p.length - 1 = (j - p.length - 1) + 1 by omega, take_snocO (get_in hp hz)]
      intro y hy hyl
      rcases List.mem_append.1 hy with hy | hy
      · exact h4 y hy hyl
      · rw [List.mem_singleton] at hy; rw [hy] at hyl; exact absurd hyl hl

theorem sel_clash {L : Int} {l : List O} {j : Nat} {a m s : Int} {z : O} (h : Sel L l j a m s) (hmin : ∀ y ∈ l, L ≤ y.level) (hz : l[j]? = some z) (hl : z.level = L) (h0 : 0 ≤ s) (hne : z.side ≠ s) : Conf l := by
  rcases h with ⟨h1, h2, h3, h4⟩ | ⟨p, x, q, rfl, hp, hx, ha, hs, h1, hm, h2, h3, h4, h5⟩
  · omega
  · exact conf_of hmin hx (get_in hp hz) hl (.inl (by omega))

theorem sel_first {L : Int} {l : List O} {j : Nat} {a m s : Int} {z : O} (h : Sel L l j a m s) (hz : l[j]? = some z) (hl : z.level = L) (h0 : a < 0) : Sel L l (j + 1) (2 * (j : Int) + 1) (m + 1) z.side := by
  rcases h with ⟨h1, h2, h3, h4⟩ | ⟨p, x, q, rfl, hp, hx, ha, hs, h1, hm, h2, h3, h4, h5⟩
  · obtain ⟨he, hlen⟩ := split_at hz
    refine .inr ⟨l.take j, z, l.drop (j + 1), he, by omega, hl, by omega, rfl, by omega, by omega, ?_, ?_, ?_, ?_⟩
    · rw [take_snocO hz]
      intro y hy hyl
      rcases List.mem_append.1 hy with hy | hy
      · exact absurd hyl (h4 y hy)
      · rw [List.mem_singleton] at hy; rw [hy]
    · intro y hy hyl; exact absurd hyl (h4 y hy)
    · rw [hlen, show j + 1 - j - 1 = 0 by omega]
      intro y hy; simp at hy
    · intro hm; omega
  · omega

theorem sel_left {L : Int} {l : List O} {j : Nat} {a m s : Int} {z : O} (h : Sel L l j a m s) (hz : l[j]? = some z) (hl : z.level = L) (h0 : 0 ≤ s) (hs0 : z.side = 0) (hs1 : z.side = s) : Sel L l (j + 1) (2 * (j : Int) + 1) (m + 1) z.side := by
  rcases h with ⟨h1, h2, h3, h4⟩ | ⟨p, x, q, hpq, hp, hx, ha, hs, h1, hm, h2, h3, h4, h5⟩
  · omega
  · obtain ⟨he, hlen⟩ := split_at hz
    refine .inr ⟨l.take j, z, l.drop (j + 1), he, by omega, hl, by omega, rfl, by omega, by omega, ?_, ?_, ?_, ?_⟩
    · rw [take_snocO hz]
      intro y hy hyl
      rcases List.mem_append.1 hy with hy | hy
      · rw [h2 y hy hyl]; omega
      · rw [List.mem_singleton] at hy; rw [hy]
    · intro y hy hyl; exact .inl hs0
    · rw [hlen, show j + 1 - j - 1 = 0 by omega]
      intro y hy; simp at hy
    · intro _ h; omega

theorem sel_keep {L : Int} {l : List O} {j : Nat} {a m s : Int} {z : O} (h : Sel L l j a m s) (hmin : ∀ y ∈ l, L ≤ y.level) (hz : l[j]? = some z) (hl : z.level = L) (h0 : 0 ≤ s) (hs0 : z.side ≠ 0) (hs1 : z.side = s) : Sel L l (j + 1) a (m + 1) z.side := by
  rcases h with ⟨h1, h2, h3, h4⟩ | ⟨p, x, q, rfl, hp, hx, ha, hs, h1, hm, h2, h3, h4, h5⟩
  · omega
  · refine .inr ⟨p, x, q, rfl, by omega, hx, ha, by omega, by omega, by omega, ?_, ?_, ?_, ?_⟩
    · rw [take_snocO hz]
      intro y hy hyl
      rcases List.mem_append.1 hy with hy | hy
      · exact h2 y hy hyl
      · rw [List.mem_singleton] at hy; rw [hy]; omega
    · intro y hy hyl
      rcases h3 y hy hyl with h | h
      · exact .inl h
      · exact .inr ⟨by omega, h.2⟩
    · intro y hy hyl
      exact ⟨by omega, fun _ => by omega⟩
    · intro _ h2'
      exact conf_of hmin hx (get_in hp hz) hl (.inr (by omega))

/-- The end of the second loop. -/
theorem sel_end {L : Int} {l : List O} {a m s : Int} (h : Sel L l l.length a m s) (hmin : ∀ y ∈ l, L ≤ y.level) (hmem : ∃ y ∈ l, y.level = L) :
    ∃ p x q, l = p ++ x :: q ∧ a = 2 * (p.length : Int) + 1 ∧ 1 ≤ m ∧ m ≤ l.length ∧ (s = 2 → 2 ≤ m → Conf l) ∧ (¬ (s = 2 ∧ 2 ≤ m) → (0 ≤ x.side ∧ x.side ≤ 2) → ∀ (n : Int) (t : T), R n l t ↔ ∃ u v, t = .node x u v ∧ R n p u ∧ R x.n q v) := by
  rcases h with ⟨h1, h2, h3, h4⟩ | ⟨p, x, q, rfl, hp, hx, ha, hs, h1, hm, h2, h3, h4, h5⟩
  · obtain ⟨y, hy, hyl⟩ := hmem
    exact absurd hyl (h4 y (by simpa using hy))
  · refine ⟨p, x, q, rfl, ha, h1, hm, fun h6 h7 => h5 h7 (by omega), fun hno hsx n t => ?_⟩
    have hq : q.take ((p ++ x :: q).length - p.length - 1) = q := List.take_of_length_le (by simp only [List.length_append, List.length_cons]; omega)
    rw [hq] at h4
    rw [List.take_length] at h2
    have hl : ∀ y ∈ p, x.level < y.level ∨ (x.level = y.level ∧ y.side = 0 ∧ x.side = 0) := by
      intro y hy
      have h6 := hmin y (by simp [hy])
      by_cases he : y.level = L
      · right
        have h8 := h2 y (by simp [hy]) he
        rcases h3 y hy he with h7 | h7
        · omega
        · exact absurd ⟨by omega, h7.1⟩ hno
      · left; omega
    have hr : ∀ y ∈ q, x.level < y.level ∨ (x.level = y.level ∧ y.side = 1 ∧ x.side = 1) := by
      intro y hy
      have h6 := hmin y (by simp [hy])
      by_cases he : y.level = L
      · right
        have h8 := h2 y (by simp [hy]) he
        obtain ⟨h9, h10⟩ := h4 y hy he
        have : x.side ≠ 2 := fun h => hno ⟨by omega, h10 h⟩
        omega
      · left; omega
    constructor
    · intro hR
      rcases R_node hR with ⟨he, _⟩ | ⟨p', x', q', u, v, he, rfl, hc, hu, hv⟩
      · simp at he
      · obtain ⟨rfl, rfl, rfl⟩ := cut_one ⟨hl, hr⟩ hc he
        exact ⟨u, v, rfl, hu, hv⟩
    · rintro ⟨u, v, rfl, hu, hv⟩
      have h3' : x.side = 0 ∨ x.side = 1 ∨ x.side = 2 := by omega
      rcases h3' with h | h | h
      · exact .left h (fun y hy => by rcases hl y hy with g | g; exact .inl g; exact .inr ⟨g.1, g.2.1⟩) (fun y hy => by rcases hr y hy with g | g; exact g; omega) hu hv
      · exact .right h (fun y hy => by rcases hl y hy with g | g; exact g; omega) (fun y hy => by rcases hr y hy with g | g; exact .inl g; exact .inr ⟨g.1, g.2.1⟩) hu hv
      · exact .none h (fun y hy => by rcases hl y hy with g | g; exact g; omega) (fun y hy => by rcases hr y hy with g | g; exact g; omega) hu hv
end Go.Proofs.Ytlkoihhlbhcfpaa.Fx
