import Derived.Test.YtjhinklijopobaaDoorFg
namespace Go.Proofs.YtjhinklijopobaaDoor.Co
open Go.RowKit Go.Proofs.YtjhinklijopobaaDoor.PCoreChecks Go.Proofs.YtjhinklijopobaaDoorW.PrintWords Go.Proofs.YtjhinklijopobaaDoorW.PrintLast Go.Proofs.YtjhinklijopobaaDoorW.PrintMore
set_option linter.unusedVariables false
set_option linter.unusedSimpArgs false

/-! ### What occurs freely below a node -/
/-- The binder that the way up from a node finds is not at or below n. -/
def Out1 (t : List S28) (P : List Int) (n : Nat) (z : Int) (j : Nat) : Prop := ∃ r, Bd t P z j r ∧ ∀ b : Nat, r = (b : Int) → ¬ Bl t n b
/-- Node j is an occurrence of z at or below n whose binder is not. -/
def Fro (t : List S28) (P : List Int) (n j : Nat) (z : Int) : Prop := ∃ h : j < t.length, Bl t n j ∧ (t[j]'h).f0 = 0 ∧ (t[j]'h).f1 = z ∧ Out1 t P n z j
def FrA (t : List S28) (P : List Int) (n i : Nat) (z : Int) : Prop := ∃ j, j < i ∧ Fro t P n j z
theorem FrA.zero {t : List S28} {P : List Int} {n : Nat} {z : Int} : ¬ FrA t P n 0 z := by rintro ⟨j, h, _⟩; omega
theorem FrA.succ {t : List S28} {P : List Int} {n i : Nat} {z : Int} : FrA t P n (i + 1) z ↔ FrA t P n i z ∨ Fro t P n i z := by
  constructor
  · rintro ⟨j, h, h2⟩
    by_cases e : j = i
    · subst e; exact Or.inr h2
    · exact Or.inl ⟨j, by omega, h2⟩
  · rintro (⟨j, h, h2⟩ | h)
    · exact ⟨j, by omega, h2⟩
    · exact ⟨i, by omega, h⟩
/-- A node below n that is not n has its parent below n. -/
theorem Bl.parent {t : List S28} {P : List Int} (hP : Par t P) {n c p : Nat} (h : Bl t n c) (hne : c ≠ n) (hc : P[c]? = some (p : Int)) : Bl t n p ∧ ∃ h : p < t.length, (c : Int) ∈ (t[p]'h).f3 := by
  cases h with
  | self => exact absurd rfl hne
  | kid i hi _ h1 hm =>
    obtain ⟨k, hk, hk2⟩ := List.mem_iff_getElem.1 hm
    have e := (hP.of_kid hi hk hk2).1
    rw [hc] at e
    have : p = i := by have := Option.some.inj e; omega
    subst this
    exact ⟨h1, hi, hm⟩
theorem Fv.climb {t : List S28} {P : List Int} (hP : Par t P) {n : Nat} (hn : n < t.length) {c : Nat} {z r : Int} (h : Bd t P z c r) : (∀ b : Nat, r = (b : Int) → ¬ Bl t n b) → Bl t n c → Fv t c z → Fv t n z := by
  induction h with
  | stop c hc =>
    intro _ hb hf
    have h1 := hb.le (treeB_parts hP.tree).2.1
    by_cases e : c < t.length - 1
    · obtain ⟨j, hj, e2, _, _⟩ := hP.up c e
      rw [hc] at e2
      have := Option.some.inj e2
      omega
    · have : c = n := by omega
      rw [← this]; exact hf
  | hit c p hc hh =>
    intro hr hb hf
    by_cases e : c = n
    · rw [← e]; exact hf
    · exact absurd (hb.parent hP e hc).1 (hr p rfl)
  | up c p r hc hh _ ih =>
    intro hr hb hf
    by_cases e : c = n
    · rw [← e]; exact hf
    · obtain ⟨h1, hp, hm⟩ := hb.parent hP e hc
      refine ih hr h1 ?_
      obtain ⟨k, hk, hk2⟩ := List.mem_iff_getElem.1 hm
      rw [rdT_nat t p hp] at hh
      exact Fv.kid p hp k hk c z hk2 (hit_true hh hk hk2) hf
theorem Fv.occ {t : List S28} {P : List Int} (hP : Par t P) {i : Nat} {z : Int} (h : Fv t i z) : ∃ (j : Nat) (hj : j < t.length), Bl t i j ∧ (t[j]'hj).f0 = 0 ∧ (t[j]'hj).f1 = z ∧ ∀ r, Bd t P z i r → Bd t P z j r := by
  induction h with
  | var i h h0 => exact ⟨i, h, Bl.self, h0, rfl, fun r hr => hr⟩
  | kid i h k hk c n hc hn _ ih =>
    obtain ⟨j, hj, hbl, h0, h1, hb⟩ := ih
    refine ⟨j, hj, (Bl.kid i h c Bl.self (by rw [← hc]; exact List.getElem_mem _)).trans hbl, h0, h1, fun r hr => hb r ?_⟩
    refine Bd.up c i r (hP.of_kid h hk hc).1 ?_ hr
    rw [rdT_nat t i h]
    exact hit_false hP h hk hc hn
theorem Bd.total {t : List S28} {P : List Int} (hP : Par t P) (z : Int) : ∀ (m c : Nat), c < t.length → t.length - c ≤ m → ∃ r, Bd t P z c r ∧ (r = -1 ∨ (c : Int) < r) := by
  intro m
  induction m with
  | zero => intro c hc hm; omega
  | succ m ih =>
    intro c hc hm
    by_cases e : c < t.length - 1
    · obtain ⟨p, hp, hv, hcp, _⟩ := hP.up c e
      cases hh : hitB (rd_T28 t (p : Int)) c z with
      | true => exact ⟨p, Bd.hit c p hv hh, Or.inr (by omega)⟩
      | false =>
        obtain ⟨r, h1, h2⟩ := ih p hp (by omega)
        exact ⟨r, Bd.up c p r hv hh h1, by omega⟩
    · have : c = t.length - 1 := by omega
      subst this
      exact ⟨-1, Bd.stop _ hP.root, Or.inl rfl⟩
theorem FrA_iff {t : List S28} {P : List Int} (hP : Par t P) {n : Nat} (hn : n < t.length) (z : Int) : FrA t P n t.length z ↔ Fv t n z := by
  constructor
  · rintro ⟨j, _, hj, hb, h0, h1, r, hr, hout⟩
    refine Fv.climb hP hn hr hout hb ?_
    rw [← h1]; exact Fv.var j hj h0
  · intro h
    obtain ⟨j, hj, hb, h0, h1, hbd⟩ := h.occ hP
    obtain ⟨r, hr, hr2⟩ := Bd.total hP z t.length n hn (by omega)
    refine ⟨j, hj, hj, hb, h0, h1, r, hbd r hr, fun b e hb2 => ?_⟩
    have := hb2.le (treeB_parts hP.tree).2.1
    omega
/-- The binder is at or below n, or not. -/
theorem Out1_iff {t : List S28} {P : List Int} {n j : Nat} {z r : Int} (h : Bd t P z j r) : Out1 t P n z j ↔ ∀ b : Nat, r = (b : Int) → ¬ Bl t n b := by
  constructor
  · rintro ⟨s, hs, h2⟩
    rw [h.one s hs]; exact h2
  · intro h2; exact ⟨r, h, h2⟩
theorem Bd.range {t : List S28} {P : List Int} (hP : Par t P) {z r : Int} {c : Nat} (h : Bd t P z c r) : r = -1 ∨ ∃ b : Nat, r = (b : Int) ∧ b < t.length := by
  have up : ∀ c p : Nat, P[c]? = some (p : Int) → p < t.length := by
    intro c p hc
    have hcl : c < P.length := (List.getElem?_eq_some_iff.1 hc).1
    rw [hP.len] at hcl
    by_cases e : c < t.length - 1
    · obtain ⟨j, hj, e3, _, _⟩ := hP.up c e
      rw [hc] at e3
      have := Option.some.inj e3
      omega
    · have : c = t.length - 1 := by omega
      rw [this, hP.root] at hc
      have := Option.some.inj hc
      omega
  induction h with
  | stop _ _ => exact Or.inl rfl
  | hit c p hc _ => exact Or.inr ⟨p, rfl, up c p hc⟩
  | up _ _ _ _ _ _ ih => exact ih

/-! ### A number put into a row that increases -/
theorem sorted_put {l : List Int} {x : Int} {k : Nat} (hs : l.Pairwise (· < ·)) (hk : k ≤ l.length) (hlt : ∀ y ∈ l.take k, y < x) (hge : ∀ h : k < l.length, ¬ l[k]'h < x) (hx : x ∉ l) : (l.take k ++ x :: l.drop k).Pairwise (· < ·) ∧ ∀ z, z ∈ l.take k ++ x :: l.drop k ↔ z ∈ l ∨ z = x := by
  have hsplit : l.take k ++ l.drop k = l := List.take_append_drop k l
  have hs2 := hs
  rw [← hsplit, List.pairwise_append] at hs2
  obtain ⟨h1, h2, h3⟩ := hs2
  have hgt : ∀ y ∈ l.drop k, x < y := by
    intro y hy
    have hkl : k < l.length := by
      rcases Nat.lt_or_ge k l.length with h | h
      · exact h
      · rw [List.drop_of_length_le h] at hy; cases hy
    have e : l.drop k = (l[k]'hkl) :: l.drop (k + 1) := List.drop_eq_getElem_cons hkl
    have hxk : x < l[k]'hkl := by
      have := hge hkl
      have hne : x ≠ l[k]'hkl := fun he => hx (by rw [he]; exact List.getElem_mem _)
      omega
    rw [e] at hy h2
    rcases List.mem_cons.1 hy with rfl | hy
    · exact hxk
    · have := (List.pairwise_cons.1 h2).1 y hy
      omega
  refine ⟨List.pairwise_append.2 ⟨h1, List.pairwise_cons.2 ⟨hgt, h2⟩, fun a ha b hb => ?_⟩, fun z => ?_⟩
  · rcases List.mem_cons.1 hb with rfl | hb
    · exact hlt a ha
    · exact h3 a ha b hb
  · rw [List.mem_append, List.mem_cons]
    conv => rhs; rw [← hsplit, List.mem_append]
    constructor
    · rintro (h | rfl | h)
      · exact Or.inl (Or.inl h)
      · exact Or.inr rfl
      · exact Or.inl (Or.inr h)
    · rintro ((h | h) | rfl)
      · exact Or.inl h
      · exact Or.inr (Or.inr h)
      · exact Or.inr (Or.inl rfl)
theorem sorted_same {l m : List Int} (hl : l.Pairwise (· < ·)) (hm : m.Pairwise (· < ·)) (h : ∀ z, z ∈ l ↔ z ∈ m) : l = m := by
  have nd : ∀ {l : List Int}, l.Pairwise (· < ·) → l.Nodup := fun h => List.nodup_iff_pairwise_ne.2 (h.imp (fun {a b} h e => by omega))
  have hp : l.Perm m := (List.perm_ext_iff_of_nodup (nd hl) (nd hm)).2 h
  exact List.Perm.eq_of_pairwise (fun a b _ _ h1 h2 => by omega) hl hm hp
theorem sorted_len {l : List Int} (hl : l.Pairwise (· < ·)) {B : Nat} (h : ∀ z ∈ l, idz z) : l.length ≤ 1048576 := by
  have nd : l.Nodup := List.nodup_iff_pairwise_ne.2 (hl.imp (fun {a b} h e => by omega))
  refine count_len 1048576 l (fun k hk => ?_) (fun k _ => List.nodup_iff_count.1 nd k)
  have := h k hk
  unfold idz at this
  omega
end Go.Proofs.YtjhinklijopobaaDoor.Co
