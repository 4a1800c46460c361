namespace Go.Proofs.Ytlkoihhlbhcfpaa.Fx

/-- An operator: its name, side (0 left, 1 right, 2 none) and level; and the operand behind it. -/
structure O where
  op : ByteArray
  side : Int
  level : Int
  n : Int

inductive T where
  | leaf : Int → T
  | node : O → T → T → T

def against (x y : O) : Prop := x.level = y.level ∧ (x.side ≠ y.side ∨ x.side = 2)

/-- The tree of a sequence. -/
inductive R : Int → List O → T → Prop where
  | leaf (n : Int) : R n [] (.leaf n)
  | left {n : Int} {p q : List O} {x : O} {a b : T} : x.side = 0 → (∀ y ∈ p, x.level < y.level ∨ (x.level = y.level ∧ y.side = 0)) → (∀ y ∈ q, x.level < y.level) → R n p a → R x.n q b → R n (p ++ x :: q) (.node x a b)
  | right {n : Int} {p q : List O} {x : O} {a b : T} : x.side = 1 → (∀ y ∈ p, x.level < y.level) → (∀ y ∈ q, x.level < y.level ∨ (x.level = y.level ∧ y.side = 1)) → R n p a → R x.n q b → R n (p ++ x :: q) (.node x a b)
  | none {n : Int} {p q : List O} {x : O} {a b : T} : x.side = 2 → (∀ y ∈ p, x.level < y.level) → (∀ y ∈ q, x.level < y.level) → R n p a → R x.n q b → R n (p ++ x :: q) (.node x a b)

/-- Two operators of one level that don't agree, and none of a lower level between them. -/
def Conf (l : List O) : Prop := ∃ (a : List O) (x : O) (b : List O) (y : O) (c : List O), l = a ++ x :: (b ++ y :: c) ∧ (∀ z ∈ b, x.level ≤ z.level) ∧ against y x

/-- Where a conflict in p ++ x :: q lies. -/
theorem conf_cases {p q : List O} {x : O} (h : Conf (p ++ x :: q)) : Conf p ∨ Conf q ∨ (∃ y ∈ q, against y x ∧ ∃ b c, q = b ++ y :: c ∧ ∀ z ∈ b, x.level ≤ z.level) ∨ (∃ y ∈ p, against x y) ∨ (∃ y ∈ p, ∃ z ∈ q, against z y ∧ y.level ≤ x.level) := by
  obtain ⟨a, u, b, v, c, he, hb, hag⟩ := h
  rw [List.append_eq_append_iff] at he
  rcases he with ⟨d, hd1, hd2⟩ | ⟨d, hd1, hd2⟩
  · -- a = p ++ d, x :: q = d ++ u :: ..
    cases d with
    | nil =>
      simp only [List.nil_append, List.cons.injEq] at hd2
      obtain ⟨rfl, rfl⟩ := hd2
      exact .inr (.inr (.inl ⟨v, by simp, hag, b, c, rfl, hb⟩))
    | cons e d =>
      simp only [List.cons_append, List.cons.injEq] at hd2
      obtain ⟨rfl, rfl⟩ := hd2
      exact .inr (.inl ⟨d, u, b, v, c, rfl, hb, hag⟩)
  · -- p = a ++ d, u :: b ++ v :: c = d ++ x :: q
    cases d with
    | nil =>
      simp only [List.nil_append, List.cons.injEq] at hd2
      obtain ⟨rfl, rfl⟩ := hd2
      exact .inr (.inr (.inl ⟨v, by simp, hag, b, c, rfl, hb⟩))
    | cons e d =>
      simp only [List.cons_append, List.cons.injEq] at hd2
      obtain ⟨rfl, hd3⟩ := hd2
      rw [List.append_eq_append_iff] at hd3
      rcases hd3 with ⟨f, hf1, hf2⟩ | ⟨f, hf1, hf2⟩
      · -- d = b ++ f, v :: c = f ++ x :: q
        cases f with
        | nil =>
          simp only [List.nil_append, List.cons.injEq] at hf2
          obtain ⟨rfl, rfl⟩ := hf2
          exact .inr (.inr (.inr (.inl ⟨u, by rw [hd1]; simp, hag⟩)))
        | cons g f =>
          simp only [List.cons_append, List.cons.injEq] at hf2
          obtain ⟨rfl, rfl⟩ := hf2
          exact .inl ⟨a, u, b, v, f, by rw [hd1, hf1], hb, hag⟩
      · -- b = d ++ f, x :: q = f ++ v :: c
        cases f with
        | nil =>
          simp only [List.nil_append, List.cons.injEq] at hf2
          obtain ⟨rfl, rfl⟩ := hf2
          exact .inr (.inr (.inr (.inl ⟨u, by rw [hd1]; simp, hag⟩)))
        | cons g f =>
          simp only [List.cons_append, List.cons.injEq] at hf2
          obtain ⟨rfl, rfl⟩ := hf2
          exact .inr (.inr (.inr (.inr ⟨u, by rw [hd1]; simp, v, by simp, hag, hb _ (by rw [hf1]; simp)⟩)))

/-- A sequence with a conflict has no tree. -/
theorem R_no_conf {n : Int} {l : List O} {t : T} (h : R n l t) : ¬ Conf l := by
  induction h with
  | leaf n => rintro ⟨a, x, b, y, c, he, _⟩; simp at he
  | left hs hp hq _ _ iha ihb =>
    intro hc
    rcases conf_cases hc with h | h | ⟨y, hy, ⟨h1, _⟩, _⟩ | ⟨y, hy, h1, h2⟩ | ⟨y, hy, z, hz, ⟨h1, _⟩, h3⟩
    · exact iha h
    · exact ihb h
    · have := hq y hy; omega
    · rcases hp y hy with h | ⟨_, h⟩
      · omega
      · rw [hs, h] at h2; simp at h2
    · have := hq z hz
      rcases hp y hy with h | ⟨h, _⟩ <;> omega
  | right hs hp hq _ _ iha ihb =>
    intro hc
    rcases conf_cases hc with h | h | ⟨y, hy, ⟨h1, h2⟩, _⟩ | ⟨y, hy, h1, h2⟩ | ⟨y, hy, z, hz, ⟨h1, _⟩, h3⟩
    · exact iha h
    · exact ihb h
    · rcases hq y hy with h | ⟨_, h⟩
      · omega
      · rw [hs, h] at h2; simp at h2
    · have := hp y hy; omega
    · have := hp y hy; omega
  | none hs hp hq _ _ iha ihb =>
    intro hc
    rcases conf_cases hc with h | h | ⟨y, hy, ⟨h1, h2⟩, _⟩ | ⟨y, hy, h1, h2⟩ | ⟨y, hy, z, hz, ⟨h1, _⟩, h3⟩
    · exact iha h
    · exact ihb h
    · have := hq y hy; omega
    · have := hp y hy; omega
    · have := hp y hy; omega

/-- The level from which on an operator's right operand reads. -/
def next (x : O) : Int := if x.side = 1 then x.level else x.level + 1

mutual
/-- climb: what it returns; none: an error. -/
inductive CL : Int → O → Int → List O → Option (T × List O) → Prop where
  | mk {least : Int} {outer : O} {n : Int} {l : List O} {r : Option (T × List O)} : LP least outer (.leaf n) outer l r → CL least outer n l r
/-- Its loop. -/
inductive LP : Int → O → T → O → List O → Option (T × List O) → Prop where
  | nil {least : Int} {outer : O} {t : T} {last : O} : LP least outer t last [] (some (t, []))
  | low {least : Int} {outer : O} {t : T} {last x : O} {l : List O} : x.level < least → LP least outer t last (x :: l) (some (t, x :: l))
  | bad {least : Int} {outer : O} {t : T} {last x : O} {l : List O} : least ≤ x.level → (against x outer ∨ against x last) → LP least outer t last (x :: l) none
  | deep {least : Int} {outer : O} {t : T} {last x : O} {l : List O} : least ≤ x.level → ¬ against x outer → ¬ against x last → CL (next x) x x.n l none → LP least outer t last (x :: l) none
  | step {least : Int} {outer : O} {t u : T} {last x : O} {l l' : List O} {r : Option (T × List O)} : least ≤ x.level → ¬ against x outer → ¬ against x last → CL (next x) x x.n l (some (u, l')) → LP least outer (.node x t u) x l' r → LP least outer t last (x :: l) r
end

theorem conf_app {l : List O} (p : List O) (h : Conf l) : Conf (p ++ l) := by
  obtain ⟨a, x, b, y, c, rfl, hb, hag⟩ := h
  exact ⟨p ++ a, x, b, y, c, by simp, hb, hag⟩

def Sides (l : List O) : Prop := ∀ x ∈ l, x.side = 0 ∨ x.side = 1 ∨ x.side = 2

/-- What climb's result says. -/
def CLok (least : Int) (outer : O) (n : Int) (l : List O) (r : Option (T × List O)) : Prop :=
  outer.level ≤ least → (outer.level = least → outer.side = 1) → Sides l →
    match r with
    | some (t, rest) => ∃ P, l = P ++ rest ∧ R n P t ∧ (∀ x ∈ P, least ≤ x.level) ∧ (∀ x ∈ P, ¬ against x outer) ∧ (∀ x r', rest = x :: r' → x.level < least)
    | none => Conf (outer :: l)

/-- The loop's state: Q is consumed. -/
def St (outer last : O) (Q l : List O) : Prop :=
  (Q = [] ∧ last = outer) ∨ (∃ Q1 Q2, Q = Q1 ++ last :: Q2 ∧ (∀ y ∈ Q1, last.level < y.level ∨ (last.level = y.level ∧ y.side = 0 ∧ last.side = 0)) ∧ (∀ y ∈ Q2, last.level < y.level ∨ (last.level = y.level ∧ y.side = 1 ∧ last.side = 1)) ∧ (∀ y r', l = y :: r' → y.level < next last))

def LPok (least : Int) (outer : O) (t : T) (last : O) (l : List O) (r : Option (T × List O)) : Prop :=
  outer.level ≤ least → (outer.level = least → outer.side = 1) → Sides l →
    ∀ n Q, R n Q t → (∀ x ∈ Q, least ≤ x.level) → (∀ x ∈ Q, ¬ against x outer) → St outer last Q l →
    match r with
    | some (t', rest) => ∃ P, l = P ++ rest ∧ R n (Q ++ P) t' ∧ (∀ x ∈ P, least ≤ x.level) ∧ (∀ x ∈ P, ¬ against x outer) ∧ (∀ x r', rest = x :: r' → x.level < least)
    | none => Conf (outer :: (Q ++ l))

theorem st_bad {least : Int} {outer last x : O} {Q l : List O} (ho : outer.level ≤ least) (hQ : ∀ x ∈ Q, least ≤ x.level) (hst : St outer last Q (x :: l)) (h : against x outer ∨ against x last) : Conf (outer :: (Q ++ x :: l)) := by
  have h1 : against x outer → Conf (outer :: (Q ++ x :: l)) := fun h => ⟨[], outer, Q, x, l, rfl, fun z hz => by have := hQ z hz; omega, h⟩
  rcases h with h | h
  · exact h1 h
  · rcases hst with ⟨rfl, rfl⟩ | ⟨Q1, Q2, rfl, _, hq2, _⟩
    · exact h1 h
    · exact ⟨outer :: Q1, last, Q2, x, l, by simp, fun z hz => by rcases hq2 z hz with h | h <;> omega, h⟩

/-- One step of the loop makes a tree of what is consumed. -/
theorem st_step {n : Int} {outer last x : O} {Q P l : List O} {t u : T} (hx : x.side = 0 ∨ x.side = 1 ∨ x.side = 2) (hst : St outer last Q (x :: l)) (hag : ¬ against x last) (ht : R n Q t) (hu : R x.n P u) (hP : ∀ y ∈ P, next x ≤ y.level) (hPa : ∀ y ∈ P, ¬ against y x) :
    R n (Q ++ x :: P) (.node x t u) ∧ (∀ y ∈ Q, x.level < y.level ∨ (x.level = y.level ∧ y.side = 0 ∧ x.side = 0)) ∧ (∀ y ∈ P, x.level < y.level ∨ (x.level = y.level ∧ y.side = 1 ∧ x.side = 1)) := by
  have hq : ∀ y ∈ Q, x.level < y.level ∨ (x.level = y.level ∧ y.side = 0 ∧ x.side = 0) := by
    rcases hst with ⟨rfl, rfl⟩ | ⟨Q1, Q2, rfl, h1, h2, h3⟩
    · intro y hy; cases hy
    · have h4 := h3 x l rfl
      unfold next at h4
      unfold against at hag
      intro y hy
      rw [List.mem_append, List.mem_cons] at hy
      by_cases hl : x.level < last.level
      · left
        rcases hy with hy | rfl | hy
        · rcases h1 y hy with h | h <;> omega
        · exact hl
        · rcases h2 y hy with h | h <;> omega
      · have he : x.level = last.level := by
          split at h4 <;> omega
        have hs : x.side = last.side ∧ x.side ≠ 2 := by
          constructor
          · exact Decidable.byContradiction fun h => hag ⟨he, .inl h⟩
          · exact fun h => hag ⟨he, .inr h⟩
        have hs0 : last.side = 0 := by
          rcases hx with h | h | h
          · omega
          · rw [if_pos (by omega)] at h4; omega
          · exact absurd h hs.2
        rcases hy with hy | rfl | hy
        · rcases h1 y hy with h | h
          · left; omega
          · right; omega
        · right; omega
        · rcases h2 y hy with h | h
          · left; omega
          · omega
  have hp : ∀ y ∈ P, x.level < y.level ∨ (x.level = y.level ∧ y.side = 1 ∧ x.side = 1) := by
    intro y hy
    have h1 := hP y hy
    have h2 := hPa y hy
    unfold next at h1
    unfold against at h2
    by_cases hs : x.side = 1
    · rw [if_pos hs] at h1
      by_cases he : y.level = x.level
      · right
        exact ⟨he.symm, Decidable.byContradiction fun h => h2 ⟨he, .inl (by omega)⟩, hs⟩
      · left; omega
    · rw [if_neg hs] at h1
      left; omega
  refine ⟨?_, hq, hp⟩
  rcases hx with h | h | h
  · exact .left h (fun y hy => by rcases hq y hy with g | g; exact .inl g; exact .inr ⟨g.1, g.2.1⟩) (fun y hy => by rcases hp y hy with g | g; exact g; omega) ht hu
  · exact .right h (fun y hy => by rcases hq y hy with g | g; exact g; omega) (fun y hy => by rcases hp y hy with g | g; exact .inl g; exact .inr ⟨g.1, g.2.1⟩) ht hu
  · exact .none h (fun y hy => by rcases hq y hy with g | g; exact g; omega) (fun y hy => by rcases hp y hy with g | g; exact g; omega) ht hu

theorem next_le (x : O) : x.level ≤ next x := by unfold next; split <;> omega
theorem next_eq (x : O) (h : x.level = next x) : x.side = 1 := by
  unfold next at h
  split at h
  · assumption
  · omega

theorem lp_ok {least : Int} {outer : O} {t : T} {last : O} {l : List O} {r : Option (T × List O)} (h : LP least outer t last l r) : LPok least outer t last l r := by
  refine LP.rec (motive_1 := fun least outer n l r _ => CLok least outer n l r) (motive_2 := fun least outer t last l r _ => LPok least outer t last l r) ?_ ?_ ?_ ?_ ?_ ?_ h
  · -- mk
    intro least outer n l r _ ih h1 h2 h3
    have := ih h1 h2 h3 n [] (.leaf n) (fun x hx => by cases hx) (fun x hx => by cases hx) (.inl ⟨rfl, rfl⟩)
    exact this
  · intro least outer t last h1 h2 h3 n Q hR hQ hQa hst
    exact ⟨[], rfl, by simpa using hR, (fun x hx => absurd hx (by simp)), (fun x hx => absurd hx (by simp)), (fun x r' h => absurd h (by simp))⟩
  · intro least outer t last x l hlow h1 h2 h3 n Q hR hQ hQa hst
    refine ⟨[], rfl, by simpa using hR, (fun x hx => absurd hx (by simp)), (fun x hx => absurd hx (by simp)), fun y r' h => ?_⟩
    obtain ⟨rfl, _⟩ := List.cons.inj h
    exact hlow
  · intro least outer t last x l hle hbad h1 h2 h3 n Q hR hQ hQa hst
    exact st_bad h1 hQ hst hbad
  · intro least outer t last x l hle ho hl _ ih h1 h2 h3 n Q hR hQ hQa hst
    have := ih (next_le x) (next_eq x) (fun y hy => h3 y (List.mem_cons_of_mem _ hy))
    exact conf_app (outer :: Q) this
  · intro least outer t u last x l l' r hle ho hl _ _ ih1 ih2 h1 h2 h3 n Q hR hQ hQa hst
    obtain ⟨P, rfl, hu, hP, hPa, hrest⟩ := ih1 (next_le x) (next_eq x) (fun y hy => h3 y (List.mem_cons_of_mem _ hy))
    obtain ⟨hR2, hq, hp⟩ := st_step (h3 x (List.mem_cons_self ..)) hst hl hR hu hP hPa
    have hQ2 : ∀ y ∈ Q ++ x :: P, least ≤ y.level := by
      intro y hy
      rw [List.mem_append, List.mem_cons] at hy
      rcases hy with hy | rfl | hy
      · exact hQ y hy
      · exact hle
      · rcases hp y hy with h | h <;> omega
    have hP2 : ∀ y ∈ P, ¬ against y outer := by
      intro y hy ⟨he, hs⟩
      rcases hp y hy with h | ⟨h, h', h''⟩
      · omega
      · have hxo : x.level = outer.level := by omega
        exact ho ⟨hxo, by rcases hs with hs | hs; exact .inl (by omega); omega⟩
    have hQa2 : ∀ y ∈ Q ++ x :: P, ¬ against y outer := by
      intro y hy
      rw [List.mem_append, List.mem_cons] at hy
      rcases hy with hy | rfl | hy
      · exact hQa y hy
      · exact ho
      · exact hP2 y hy
    have := ih2 h1 h2 (fun y hy => h3 y (List.mem_cons_of_mem _ (List.mem_append_right _ hy))) n (Q ++ x :: P) hR2 hQ2 hQa2 (.inr ⟨Q, P, rfl, hq, hp, hrest⟩)
    cases r with
    | none => simpa using this
    | some r =>
      obtain ⟨t', rest⟩ := r
      obtain ⟨P', rfl, hR3, hP3, hPa3, hr3⟩ := this
      refine ⟨x :: P ++ P', by simp, by simpa using hR3, ?_, ?_, hr3⟩
      · intro y hy
        simp only [List.cons_append, List.mem_cons, List.mem_append] at hy
        rcases hy with rfl | hy | hy
        · exact hle
        · rcases hp y hy with h | h <;> omega
        · exact hP3 y hy
      · intro y hy
        simp only [List.cons_append, List.mem_cons, List.mem_append] at hy
        rcases hy with rfl | hy | hy
        · exact ho
        · exact hP2 y hy
        · exact hPa3 y hy

/-- At the outermost: the whole is read, or it has no tree. -/
theorem climb_top {n : Int} {l : List O} {outer : O} {r : Option (T × List O)} (h : CL 0 outer n l r) (ho : outer.level = -1) (hl : ∀ x ∈ l, 0 ≤ x.level) (hs : Sides l) :
    match r with
    | some (t, rest) => rest = [] ∧ R n l t
    | none => ∀ t, ¬ R n l t := by
  cases h with
  | mk h =>
    have := lp_ok h (by omega) (fun h => by omega) hs n [] (.leaf n) (fun x hx => by cases hx) (fun x hx => by cases hx) (.inl ⟨rfl, rfl⟩)
    cases r with
    | some r =>
      obtain ⟨t, rest⟩ := r
      obtain ⟨P, rfl, hR, _, _, hr⟩ := this
      cases rest with
      | nil => exact ⟨rfl, by simpa using hR⟩
      | cons x r' =>
        have h1 := hr x r' rfl
        have h2 := hl x (by simp)
        omega
    | none =>
      intro t hR
      apply R_no_conf hR
      obtain ⟨a, x, b, y, c, he, hb, hag⟩ := this
      cases a with
      | nil =>
        simp only [List.nil_append, List.cons.injEq] at he
        obtain ⟨rfl, he⟩ := he
        have h1 := hl y (by rw [show l = b ++ y :: c from he]; simp)
        have := hag.1
        omega
      | cons z a =>
        simp only [List.cons_append, List.cons.injEq] at he
        exact ⟨a, x, b, y, c, he.2, hb, hag⟩

/-- Where a sequence is cut. -/
def Cut (p : List O) (x : O) (q : List O) : Prop := (∀ y ∈ p, x.level < y.level ∨ (x.level = y.level ∧ y.side = 0 ∧ x.side = 0)) ∧ (∀ y ∈ q, x.level < y.level ∨ (x.level = y.level ∧ y.side = 1 ∧ x.side = 1))

theorem cut_one {p q p' q' : List O} {x x' : O} (h : Cut p x q) (h' : Cut p' x' q') (he : p ++ x :: q = p' ++ x' :: q') : p = p' ∧ x = x' ∧ q = q' := by
  have no : ∀ {p q p' q' : List O} {x x' : O}, Cut p x q → Cut p' x' q' → x ∈ p' → x' ∈ q → False := by
    intro p q p' q' x x' h h' h1 h2
    rcases h.2 x' h2 with g | ⟨g, g1, _⟩ <;> rcases h'.1 x h1 with k | ⟨k, k1, k2⟩
    · omega
    · omega
    · omega
    · omega
  rw [List.append_eq_append_iff] at he
  rcases he with ⟨d, hd1, hd2⟩ | ⟨d, hd1, hd2⟩
  · cases d with
    | nil =>
      simp only [List.nil_append, List.cons.injEq] at hd2
      exact ⟨by simpa using hd1.symm, hd2.1, hd2.2⟩
    | cons e d =>
      simp only [List.cons_append, List.cons.injEq] at hd2
      obtain ⟨rfl, rfl⟩ := hd2
      exact (no h h' (by rw [hd1]; simp) (by simp)).elim
  · cases d with
    | nil =>
      simp only [List.nil_append, List.cons.injEq] at hd2
      exact ⟨by simpa using hd1, hd2.1.symm, hd2.2.symm⟩
    | cons e d =>
      simp only [List.cons_append, List.cons.injEq] at hd2
      obtain ⟨rfl, rfl⟩ := hd2
      exact (no h' h (by rw [hd1]; simp) (by simp)).elim

/-- A tree's parts. -/
theorem R_node {n : Int} {l : List O} {t : T} (h : R n l t) : (l = [] ∧ t = .leaf n) ∨ ∃ p x q a b, l = p ++ x :: q ∧ t = .node x a b ∧ Cut p x q ∧ R n p a ∧ R x.n q b := by
  cases h with
  | leaf => exact .inl ⟨rfl, rfl⟩
  | left hs hp hq ha hb => exact .inr ⟨_, _, _, _, _, rfl, rfl, ⟨fun y hy => by rcases hp y hy with g | g; exact .inl g; exact .inr ⟨g.1, g.2, hs⟩, fun y hy => .inl (hq y hy)⟩, ha, hb⟩
  | right hs hp hq ha hb => exact .inr ⟨_, _, _, _, _, rfl, rfl, ⟨fun y hy => .inl (hp y hy), fun y hy => by rcases hq y hy with g | g; exact .inl g; exact .inr ⟨g.1, g.2, hs⟩⟩, ha, hb⟩
  | none hs hp hq ha hb => exact .inr ⟨_, _, _, _, _, rfl, rfl, ⟨fun y hy => .inl (hp y hy), fun y hy => .inl (hq y hy)⟩, ha, hb⟩

/-- There is one tree. -/
theorem R_det {n : Int} {l : List O} {t : T} (h : R n l t) : ∀ {t' : T}, R n l t' → t = t' := by
  induction h with
  | leaf n =>
    intro t' h'
    rcases R_node h' with ⟨_, rfl⟩ | ⟨p, x, q, a, b, he, _⟩
    · rfl
    · simp at he
  | left hs hp hq _ _ iha ihb =>
    intro t' h'
    rcases R_node h' with ⟨he, _⟩ | ⟨p', x', q', a', b', he, rfl, hc, ha, hb⟩
    · simp at he
    · obtain ⟨rfl, rfl, rfl⟩ := cut_one ⟨fun y hy => by rcases hp y hy with g | g; exact .inl g; exact .inr ⟨g.1, g.2, hs⟩, fun y hy => .inl (hq y hy)⟩ hc he
      rw [iha ha, ihb hb]
  | right hs hp hq _ _ iha ihb =>
    intro t' h'
    rcases R_node h' with ⟨he, _⟩ | ⟨p', x', q', a', b', he, rfl, hc, ha, hb⟩
    · simp at he
    · obtain ⟨rfl, rfl, rfl⟩ := cut_one ⟨fun y hy => .inl (hp y hy), fun y hy => by rcases hq y hy with g | g; exact .inl g; exact .inr ⟨g.1, g.2, hs⟩⟩ hc he
      rw [iha ha, ihb hb]
  | none hs hp hq _ _ iha ihb =>
    intro t' h'
    rcases R_node h' with ⟨he, _⟩ | ⟨p', x', q', a', b', he, rfl, hc, ha, hb⟩
    · simp at he
    · obtain ⟨rfl, rfl, rfl⟩ := cut_one ⟨fun y hy => .inl (hp y hy), fun y hy => .inl (hq y hy)⟩ hc he
      rw [iha ha, ihb hb]

/-- A node of a tree: the operator's name ("": an operand), the operand, the parts' numbers. -/
structure Nd where
  op : ByteArray
  n : Int
  a : Int
  b : Int

/-- The nodes of a tree, each behind its parts; the first has the number base. -/
def nodes : T → Int → List Nd
  | .leaf n, _ => [⟨⟨#[]⟩, n, 0, 0⟩]
  | .node x a b, base => nodes a base ++ nodes b (base + (nodes a base).length) ++ [⟨x.op, 0, base + (nodes a base).length - 1, base + (nodes a base).length + (nodes b (base + (nodes a base).length)).length - 1⟩]

/-- How many nodes a tree has. -/
def T.size : T → Nat
  | .leaf _ => 1
  | .node _ a b => a.size + b.size + 1

theorem nodes_length : ∀ (t : T) (base : Int), (nodes t base).length = t.size
  | .leaf _, _ => rfl
  | .node x a b, base => by simp [nodes, T.size, nodes_length a, nodes_length b]; omega

theorem size_pos (t : T) : 0 < t.size := by cases t <;> simp [T.size]

/-- All operators of a tree have names. -/
def Named : T → Prop
  | .leaf _ => True
  | .node x a b => x.op.toList ≠ [] ∧ Named a ∧ Named b

/-- One node moved by k. -/
def shift (k : Int) (x : Nd) : Nd := if x.op.toList = [] then x else ⟨x.op, x.n, x.a + k, x.b + k⟩

theorem nodes_shift (k : Int) : ∀ (t : T) (base : Int), Named t → (nodes t base).map (shift k) = nodes t (base + k)
  | .leaf n, base, _ => by
    have : (⟨#[]⟩ : ByteArray).toList = [] := by decide +kernel
    simp [nodes, shift, this]
  | .node x a b, base, h => by
    obtain ⟨hx, ha, hb⟩ := h
    have e1 := nodes_shift k a base ha
    have e2 := nodes_shift k b (base + (nodes a base).length) hb
    rw [nodes_length] at e2
    rw [show base + (a.size : Int) + k = base + k + a.size by omega] at e2
    simp only [nodes, List.map_append, List.map_cons, List.map_nil, e1, nodes_length, shift, if_neg hx]
    rw [e2]
    rw [show base + (a.size : Int) - 1 + k = base + k + a.size - 1 by omega, show base + (a.size : Int) + (b.size : Int) - 1 + k = base + k + a.size + b.size - 1 by omega]

/-- A sequence has an operand more than operators. -/
theorem R_size {n : Int} {l : List O} {t : T} (h : R n l t) : t.size = 2 * l.length + 1 := by
  induction h with
  | leaf => rfl
  | left _ _ _ _ _ iha ihb => simp [T.size, iha, ihb]; omega
  | right _ _ _ _ _ iha ihb => simp [T.size, iha, ihb]; omega
  | none _ _ _ _ _ iha ihb => simp [T.size, iha, ihb]; omega
end Go.Proofs.Ytlkoihhlbhcfpaa.Fx
