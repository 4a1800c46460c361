import Derived.Test.YtemdfhaceddmpaaPa
namespace Go.Proofs.Ytemdfhaceddmpaa.Tr
open Go.Shelf Go.RowKit Go.Proofs.Ytemdfhaceddmpaa.PPrinterTells Go.Proofs.YtemdfhaceddmpaaW.PrintWords Go.Proofs.YtemdfhaceddmpaaW.PrintLast Go.Proofs.YtemdfhaceddmpaaW.PrintMore
set_option linter.unusedVariables false
set_option linter.unusedSimpArgs false

def inK (c x : Int) : Bool := decide (x ∈ kinds c)
def star (c : Int) (g : List Int → Bool) : List Int → Bool
  | [] => g []
  | x :: t => g (x :: t) || (inK c x && star c g t)
/-- A shape without a bound on rounds. -/
def F : List (UInt8 × UInt8) → List Int → Bool
  | [], l => l.isEmpty
  | (c, m) :: r, l =>
    if m = 0 then (match l with | [] => false | x :: t => inK (c.toNat : Nat) x && F r t)
    else if m = 43 then (match l with | [] => false | x :: t => inK (c.toNat : Nat) x && star (c.toNat : Nat) (F r) t)
    else if m = 63 then F r l || (match l with | [] => false | x :: t => inK (c.toNat : Nat) x && F r t)
    else star (c.toNat : Nat) (F r) l
theorem F_cons (c m : UInt8) (r : List (UInt8 × UInt8)) (l : List Int) : F ((c, m) :: r) l = if m = 0 then (match l with | [] => false | x :: t => inK (c.toNat : Nat) x && F r t)
    else if m = 43 then (match l with | [] => false | x :: t => inK (c.toNat : Nat) x && star (c.toNat : Nat) (F r) t)
    else if m = 63 then F r l || (match l with | [] => false | x :: t => inK (c.toNat : Nat) x && F r t)
    else star (c.toNat : Nat) (F r) l := by cases l <;> rfl
theorem fit_F : ∀ (n : Nat) (its : List (UInt8 × UInt8)) (l : List Int), its.length + l.length < n → fit n its l = F its l
  | 0, its, l, h => absurd h (Nat.not_lt_zero _)
  | n + 1, [], l, h => rfl
  | n + 1, (c, m) :: r, l, h => by
    rw [fit, F_cons]
    have h1 : r.length + l.length < n := by simp at h; omega
    have h2 : r.length + l.tail.length < n := by rw [List.length_tail]; omega
    have hst : ∀ t : List Int, ((c, 42) :: r : List (UInt8 × UInt8)).length + t.length < n → fit n ((c, 42) :: r) t = star (c.toNat : Nat) (F r) t := fun t ht => by
      rw [fit_F n _ t ht, F_cons, if_neg (by decide), if_neg (by decide), if_neg (by decide)]
    by_cases hm0 : m = 0
    · rw [if_pos hm0, if_pos hm0]
      cases l with
      | nil => rfl
      | cons x t => rw [List.tail_cons, fit_F n r t (by simpa using h2)]; rfl
    rw [if_neg hm0, if_neg hm0]
    by_cases hm1 : m = 43
    · rw [if_pos hm1, if_pos hm1]
      cases l with
      | nil => rfl
      | cons x t => rw [List.tail_cons, hst t (by simp at h ⊢; omega)]; rfl
    rw [if_neg hm1, if_neg hm1]
    by_cases hm2 : m = 63
    · rw [if_pos hm2, if_pos hm2, fit_F n r l h1]
      cases l with
      | nil => rfl
      | cons x t => rw [List.tail_cons, fit_F n r t (by simpa using h2)]; rfl
    rw [if_neg hm2, if_neg hm2, fit_F n r l h1]
    cases l with
    | nil => simp [star, hdB]
    | cons x t => rw [List.tail_cons, hst t (by simp at h ⊢; omega)]; rfl

theorem star_iff (c : Int) (g : List Int → Bool) : ∀ l, star c g l = true ↔ ∃ m t, l = m ++ t ∧ (∀ x ∈ m, inK c x = true) ∧ g t = true
  | [] => by
    rw [star]
    constructor
    · intro h; exact ⟨[], [], rfl, by simp, h⟩
    · rintro ⟨m, t, h, _, h3⟩
      obtain ⟨rfl, rfl⟩ := List.append_eq_nil_iff.1 h.symm
      exact h3
  | x :: l => by
    rw [star, Bool.or_eq_true, Bool.and_eq_true, star_iff c g l]
    constructor
    · rintro (h | ⟨h1, m, t, rfl, h2, h3⟩)
      · exact ⟨[], x :: l, rfl, by simp, h⟩
      · exact ⟨x :: m, t, rfl, fun y hy => by
          rcases List.mem_cons.1 hy with rfl | hy
          · exact h1
          · exact h2 y hy, h3⟩
    · rintro ⟨m, t, h, h2, h3⟩
      cases m with
      | nil => left; rw [List.nil_append] at h; rw [h]; exact h3
      | cons y m =>
        rw [List.cons_append] at h
        obtain ⟨rfl, rfl⟩ := List.cons.inj h
        exact Or.inr ⟨h2 x (by simp), m, t, rfl, fun z hz => h2 z (by simp [hz]), h3⟩
/-- A row of kinds of these letters. -/
def Mt : List Int → List Int → Prop
  | [], l => l = []
  | c :: cs, l => ∃ x t, l = x :: t ∧ inK c x = true ∧ Mt cs t
def zs (cs : List UInt8) : List (UInt8 × UInt8) := cs.map fun c => (c, 0)
def ns (cs : List UInt8) : List Int := cs.map fun c => ((c.toNat : Nat) : Int)
theorem F_zs : ∀ (cs : List UInt8) (l : List Int), F (zs cs) l = true ↔ Mt (ns cs) l
  | [], l => by simp [zs, ns, F, Mt]
  | c :: cs, l => by
    show F ((c, 0) :: zs cs) l = true ↔ _
    rw [F_cons, if_pos rfl]
    show _ ↔ ∃ x t, l = x :: t ∧ inK ((c.toNat : Nat) : Int) x = true ∧ Mt (ns cs) t
    cases l with
    | nil => simp
    | cons x t =>
      simp only [Bool.and_eq_true]
      rw [F_zs cs t]
      constructor
      · rintro ⟨h1, h2⟩; exact ⟨x, t, rfl, h1, h2⟩
      · rintro ⟨y, s, h, h1, h2⟩
        obtain ⟨rfl, rfl⟩ := List.cons.inj h
        exact ⟨h1, h2⟩
theorem F_pre (cs : List UInt8) (r : List (UInt8 × UInt8)) : ∀ (l : List Int), F (zs cs ++ r) l = true ↔ ∃ a t, l = a ++ t ∧ Mt (ns cs) a ∧ F r t = true := by
  induction cs with
  | nil =>
    intro l
    show F r l = true ↔ _
    constructor
    · intro h; exact ⟨[], l, rfl, rfl, h⟩
    · rintro ⟨a, t, rfl, h, h2⟩
      obtain rfl : a = [] := h
      exact h2
  | cons c cs ih =>
    intro l
    show F ((c, 0) :: (zs cs ++ r)) l = true ↔ _
    rw [F_cons, if_pos rfl]
    cases l with
    | nil =>
      simp only [Bool.false_eq_true, false_iff, not_exists, not_and]
      intro a t h
      obtain ⟨rfl, rfl⟩ := List.append_eq_nil_iff.1 h.symm
      rintro ⟨x, s, h, _⟩
      cases h
    | cons x t =>
      simp only [Bool.and_eq_true]
      rw [ih t]
      constructor
      · rintro ⟨h1, a, s, rfl, h2, h3⟩
        exact ⟨x :: a, s, rfl, ⟨x, a, rfl, h1, h2⟩, h3⟩
      · rintro ⟨a, s, h, ⟨y, b, rfl, h1, h2⟩, h3⟩
        rw [List.cons_append] at h
        obtain ⟨rfl, rfl⟩ := List.cons.inj h
        exact ⟨h1, b, s, rfl, h2, h3⟩
theorem Mt_len : ∀ (cs l : List Int), Mt cs l → l.length = cs.length
  | [], l, h => by rw [show l = [] from h]
  | c :: cs, l, ⟨x, t, h, _, h2⟩ => by rw [h, List.length_cons, List.length_cons, Mt_len cs t h2]
theorem Mt_iff : ∀ (cs l : List Int), Mt cs l ↔ l.length = cs.length ∧ ∀ i, i < cs.length → inK (cs.getD i 0) (l.getD i 0) = true
  | [], l => by
    constructor
    · intro h; rw [show l = [] from h]; simp
    · rintro ⟨h, _⟩; exact List.eq_nil_of_length_eq_zero h
  | c :: cs, [] => by
    constructor
    · rintro ⟨x, t, h, _⟩; cases h
    · rintro ⟨h, _⟩; simp at h
  | c :: cs, x :: t => by
    constructor
    · rintro ⟨y, s, h, h1, h2⟩
      obtain ⟨rfl, rfl⟩ := List.cons.inj h
      obtain ⟨h3, h4⟩ := (Mt_iff cs t).1 h2
      refine ⟨by simp [h3], fun i hi => ?_⟩
      cases i with
      | zero => exact h1
      | succ i => simpa using h4 i (by simpa using hi)
    · rintro ⟨h3, h4⟩
      exact ⟨x, t, rfl, by simpa using h4 0 (by simp), (Mt_iff cs t).2 ⟨by simpa using h3, fun i hi => by simpa using h4 (i + 1) (by simpa using hi)⟩⟩

/-- The letter that stands for the kid at a place. -/
def lt (fi la : List Int) (be : Int) (inner i : Nat) : Int := if i < fi.length then fi.getD i 0 else if fi.length + inner ≤ i then la.getD (i - fi.length - inner) 0 else be
def allB (fi la : List Int) (be : Int) (l : List Int) (n : Nat) : Bool := (List.range n).all fun i => inK (lt fi la be (l.length - fi.length - la.length) i) (l.getD i 0)
/-- The shape as the program looks at it. -/
def sB (fi la : List Int) (be : Int) (le : Nat) (l : List Int) : Bool := decide (fi.length + la.length + le ≤ l.length) && allB fi la be l l.length
theorem sB_iff (fi la : List Int) (be : Int) (le : Nat) (l : List Int) : sB fi la be le l = true ↔ ∃ a m b, l = a ++ (m ++ b) ∧ Mt fi a ∧ (∀ x ∈ m, inK be x = true) ∧ le ≤ m.length ∧ Mt la b := by
  unfold sB allB
  rw [Bool.and_eq_true, decide_eq_true_eq, List.all_eq_true]
  constructor
  · rintro ⟨h1, h2⟩
    have h2' : ∀ i, i < l.length → inK (lt fi la be (l.length - fi.length - la.length) i) (l.getD i 0) = true := fun i hi => h2 i (List.mem_range.2 hi)
    have hlen : l.length = fi.length + ((l.length - fi.length - la.length) + la.length) := by omega
    refine ⟨l.take fi.length, (l.drop fi.length).take (l.length - fi.length - la.length), (l.drop fi.length).drop (l.length - fi.length - la.length), by rw [List.take_append_drop, List.take_append_drop], ?_, ?_, ?_, ?_⟩
    · refine (Mt_iff _ _).2 ⟨by rw [List.length_take]; omega, fun i hi => ?_⟩
      have h := h2' i (by omega)
      unfold lt at h
      rw [if_pos hi] at h
      rw [show (l.take fi.length).getD i 0 = l.getD i 0 by simp [List.getD_eq_getElem?_getD, List.getElem?_take, hi]]
      exact h
    · intro x hx
      obtain ⟨i, hi, rfl⟩ := List.mem_iff_getElem.1 hx
      rw [List.length_take, List.length_drop] at hi
      have h := h2' (fi.length + i) (by omega)
      unfold lt at h
      rw [if_neg (by omega), if_neg (by omega)] at h
      rw [List.getElem_take, List.getElem_drop]
      rw [List.getD_eq_getElem?_getD, List.getElem?_eq_getElem (by omega)] at h
      exact h
    · rw [List.length_take, List.length_drop]; omega
    · refine (Mt_iff _ _).2 ⟨by rw [List.length_drop, List.length_drop]; omega, fun i hi => ?_⟩
      have h := h2' (fi.length + (l.length - fi.length - la.length) + i) (by omega)
      unfold lt at h
      rw [if_neg (by omega), if_pos (by omega), show fi.length + (l.length - fi.length - la.length) + i - fi.length - (l.length - fi.length - la.length) = i by omega] at h
      rw [List.drop_drop, show ((l.drop (fi.length + (l.length - fi.length - la.length))).getD i 0) = l.getD (fi.length + (l.length - fi.length - la.length) + i) 0 by simp [List.getD_eq_getElem?_getD, List.getElem?_drop]]
      exact h
  · rintro ⟨a, m, b, rfl, ha, hm, hle, hb⟩
    obtain ⟨ha1, ha2⟩ := (Mt_iff _ _).1 ha
    obtain ⟨hb1, hb2⟩ := (Mt_iff _ _).1 hb
    rw [List.length_append, List.length_append]
    refine ⟨by omega, fun i hi => ?_⟩
    rw [List.mem_range] at hi
    rw [show a.length + (m.length + b.length) - fi.length - la.length = m.length by omega]
    unfold lt
    by_cases h1 : i < fi.length
    · rw [if_pos h1]
      rw [show (a ++ (m ++ b)).getD i 0 = a.getD i 0 by rw [List.getD_eq_getElem?_getD, List.getD_eq_getElem?_getD, List.getElem?_append_left (by omega)]]
      exact ha2 i h1
    · rw [if_neg h1]
      by_cases h2 : fi.length + m.length ≤ i
      · rw [if_pos h2]
        rw [show (a ++ (m ++ b)).getD i 0 = b.getD (i - fi.length - m.length) 0 by rw [List.getD_eq_getElem?_getD, List.getD_eq_getElem?_getD, List.getElem?_append_right (by omega), List.getElem?_append_right (by omega), ha1]]
        exact hb2 _ (by omega)
      · rw [if_neg h2]
        have h3 : i - a.length < m.length := by omega
        rw [show (a ++ (m ++ b)).getD i 0 = m[i - a.length] by rw [List.getD_eq_getElem?_getD, List.getElem?_append_right (by omega), List.getElem?_append_left h3, List.getElem?_eq_getElem h3]; rfl]
        exact hm _ (List.getElem_mem h3)
theorem sB_star (fi la : List UInt8) (be : UInt8) (l : List Int) : F (zs fi ++ (be, 42) :: zs la) l = sB (ns fi) (ns la) (be.toNat : Nat) 0 l := by
  rw [Bool.eq_iff_iff, F_pre, sB_iff]
  constructor
  · rintro ⟨a, t, rfl, h1, h2⟩
    rw [F_cons, if_neg (by decide), if_neg (by decide), if_neg (by decide), star_iff] at h2
    obtain ⟨m, b, rfl, h3, h4⟩ := h2
    exact ⟨a, m, b, rfl, h1, h3, Nat.zero_le _, (F_zs _ _).1 h4⟩
  · rintro ⟨a, m, b, rfl, h1, h3, _, h4⟩
    refine ⟨a, m ++ b, rfl, h1, ?_⟩
    rw [F_cons, if_neg (by decide), if_neg (by decide), if_neg (by decide), star_iff]
    exact ⟨m, b, rfl, h3, (F_zs _ _).2 h4⟩
theorem sB_plus (fi la : List UInt8) (be : UInt8) (l : List Int) : F (zs fi ++ (be, 43) :: zs la) l = sB (ns fi) (ns la) (be.toNat : Nat) 1 l := by
  rw [Bool.eq_iff_iff, F_pre, sB_iff]
  constructor
  · rintro ⟨a, t, rfl, h1, h2⟩
    rw [F_cons, if_neg (by decide), if_pos rfl] at h2
    cases t with
    | nil => exact absurd h2 (by simp)
    | cons x t =>
      simp only [Bool.and_eq_true] at h2
      obtain ⟨hx, h2⟩ := h2
      rw [star_iff] at h2
      obtain ⟨m, b, rfl, h3, h4⟩ := h2
      exact ⟨a, x :: m, b, rfl, h1, fun y hy => by
        rcases List.mem_cons.1 hy with rfl | hy
        · exact hx
        · exact h3 y hy, by simp, (F_zs _ _).1 h4⟩
  · rintro ⟨a, m, b, rfl, h1, h3, hle, h4⟩
    refine ⟨a, m ++ b, rfl, h1, ?_⟩
    cases m with
    | nil => simp at hle
    | cons x m =>
      rw [F_cons, if_neg (by decide), if_pos rfl, List.cons_append]
      simp only [Bool.and_eq_true]
      exact ⟨h3 x (by simp), (star_iff _ _ _).2 ⟨m, b, rfl, fun y hy => h3 y (by simp [hy]), (F_zs _ _).2 h4⟩⟩
theorem inK_0 (x : Int) : inK 0 x = false := by simp [inK, kinds]
theorem sB_list (fi : List UInt8) (l : List Int) : F (zs fi) l = sB (ns fi) [] 0 0 l := by
  rw [Bool.eq_iff_iff, F_zs, sB_iff]
  constructor
  · intro h; exact ⟨l, [], [], by simp, h, by simp, Nat.zero_le _, rfl⟩
  · rintro ⟨a, m, b, rfl, h1, h3, _, h4⟩
    obtain rfl : b = [] := h4
    cases m with
    | nil => simpa using h1
    | cons x m => exact absurd (h3 x (by simp)) (by rw [inK_0]; simp)

/-! ### Groups -/
def cntK (c : Int) : List Int → Nat
  | [] => 0
  | x :: t => if inK c x = true then cntK c t + 1 else 0
def okM (m : UInt8) (n : Nat) : Bool := if m = 0 then decide (n = 1) else if m = 43 then decide (1 ≤ n) else if m = 63 then decide (n ≤ 1) else true
/-- Groups as the program counts them. -/
def G : List (UInt8 × UInt8) → List Int → Bool
  | [], l => l.isEmpty
  | (c, m) :: r, l => okM m (cntK (c.toNat : Nat) l) && G r (l.drop (cntK (c.toNat : Nat) l))
def disj (c d : Int) : Bool := (kinds c).all fun x => decide (x ∉ kinds d)
def apart : List (UInt8 × UInt8) → Bool
  | [] => true
  | (c, _) :: r => (r.all fun p => disj (c.toNat : Nat) (p.1.toNat : Nat)) && apart r
theorem cntK_app (c : Int) : ∀ (m t : List Int), (∀ x ∈ m, inK c x = true) → (∀ x s, t = x :: s → inK c x = false) → cntK c (m ++ t) = m.length
  | [], [], _, _ => rfl
  | [], x :: s, _, h => by rw [List.nil_append, cntK, if_neg (by rw [h x s rfl]; decide)]; rfl
  | y :: m, t, h1, h2 => by
    rw [List.cons_append, cntK, if_pos (h1 y (by simp)), cntK_app c m t (fun x hx => h1 x (by simp [hx])) h2]; rfl
theorem cntK_take (c : Int) : ∀ l : List Int, ∀ x ∈ l.take (cntK c l), inK c x = true
  | [], x, hx => by simp at hx
  | y :: l, x, hx => by
    rw [cntK] at hx
    split at hx
    · rw [List.take_succ_cons] at hx
      rcases List.mem_cons.1 hx with rfl | hx
      · assumption
      · exact cntK_take c l x hx
    · simp at hx
theorem cntK_le (c : Int) : ∀ l : List Int, cntK c l ≤ l.length
  | [] => Nat.le_refl _
  | y :: l => by
    rw [cntK]
    have := cntK_le c l
    split <;> simp; omega
/-- A part of a row that is one item's. -/
theorem F_item (c m : UInt8) (r : List (UInt8 × UInt8)) (l : List Int) : F ((c, m) :: r) l = true ↔ ∃ a t, l = a ++ t ∧ (∀ x ∈ a, inK (c.toNat : Nat) x = true) ∧ okM m a.length = true ∧ F r t = true := by
  rw [F_cons]
  unfold okM
  by_cases hm0 : m = 0
  · simp only [if_pos hm0]
    cases l with
    | nil =>
      simp only [Bool.false_eq_true, false_iff, not_exists, not_and]
      intro a t h _ h2
      obtain ⟨rfl, rfl⟩ := List.append_eq_nil_iff.1 h.symm
      simp at h2
    | cons x t =>
      simp only [Bool.and_eq_true, decide_eq_true_eq]
      constructor
      · rintro ⟨h1, h2⟩; exact ⟨[x], t, rfl, by simpa using h1, rfl, h2⟩
      · rintro ⟨a, s, h, h1, h2, h3⟩
        match a, h2 with
        | [y], _ =>
          obtain ⟨rfl, rfl⟩ := List.cons.inj h
          exact ⟨h1 x (by simp), h3⟩
  simp only [if_neg hm0]
  by_cases hm1 : m = 43
  · simp only [if_pos hm1]
    cases l with
    | nil =>
      simp only [Bool.false_eq_true, false_iff, not_exists, not_and]
      intro a t h _ h2
      obtain ⟨rfl, rfl⟩ := List.append_eq_nil_iff.1 h.symm
      simp at h2
    | cons x t =>
      simp only [Bool.and_eq_true, decide_eq_true_eq]
      rw [star_iff]
      constructor
      · rintro ⟨h1, a, s, rfl, h2, h3⟩
        exact ⟨x :: a, s, rfl, fun y hy => by
          rcases List.mem_cons.1 hy with rfl | hy
          · exact h1
          · exact h2 y hy, by simp, h3⟩
      · rintro ⟨a, s, h, h1, h2, h3⟩
        cases a with
        | nil => simp at h2
        | cons y a =>
          obtain ⟨rfl, rfl⟩ := List.cons.inj h
          exact ⟨h1 x (by simp), a, s, rfl, fun z hz => h1 z (by simp [hz]), h3⟩
  simp only [if_neg hm1]
  by_cases hm2 : m = 63
  · simp only [if_pos hm2, Bool.or_eq_true, decide_eq_true_eq]
    constructor
    · rintro (h | h)
      · exact ⟨[], l, rfl, by simp, by simp, h⟩
      · cases l with
        | nil => exact absurd h (by simp)
        | cons x t =>
          simp only [Bool.and_eq_true] at h
          exact ⟨[x], t, rfl, by simpa using h.1, by simp, h.2⟩
    · rintro ⟨a, s, rfl, h1, h2, h3⟩
      match a, h2 with
      | [], _ => exact Or.inl h3
      | [y], _ => right; simp only [List.cons_append, List.nil_append, Bool.and_eq_true]; exact ⟨h1 y (by simp), h3⟩
  simp only [if_neg hm2]
  rw [star_iff]
  constructor
  · rintro ⟨a, t, h, h1, h2⟩; exact ⟨a, t, h, h1, trivial, h2⟩
  · rintro ⟨a, t, h, h1, _, h2⟩; exact ⟨a, t, h, h1, h2⟩
theorem F_head : ∀ (its : List (UInt8 × UInt8)) (x : Int) (s : List Int), F its (x :: s) = true → ∃ p ∈ its, inK (p.1.toNat : Nat) x = true
  | [], x, s, h => by simp [F] at h
  | (c, m) :: r, x, s, h => by
    obtain ⟨a, t, h1, h2, -, h4⟩ := (F_item c m r _).1 h
    cases a with
    | nil =>
      rw [List.nil_append] at h1
      rw [← h1] at h4
      obtain ⟨p, hp, hx⟩ := F_head r x s h4
      exact ⟨p, by simp [hp], hx⟩
    | cons y a =>
      obtain ⟨rfl, rfl⟩ := List.cons.inj h1
      exact ⟨(c, m), by simp, h2 x (by simp)⟩
theorem F_G : ∀ (its : List (UInt8 × UInt8)), apart its = true → ∀ l, F its l = G its l
  | [], _, l => rfl
  | (c, m) :: r, hap, l => by
    rw [apart, Bool.and_eq_true] at hap
    rw [Bool.eq_iff_iff, F_item, G, Bool.and_eq_true]
    constructor
    · rintro ⟨a, t, rfl, h1, h2, h3⟩
      have hc : cntK (c.toNat : Nat) (a ++ t) = a.length := cntK_app _ a t h1 (fun x s hs => by
        rw [hs] at h3
        obtain ⟨p, hp, hx⟩ := F_head r x s h3
        have h4 := List.all_eq_true.1 hap.1 p hp
        unfold disj at h4
        by_cases hx2 : inK (c.toNat : Nat) x = true
        · have h5 := List.all_eq_true.1 h4 x (of_decide_eq_true hx2)
          exact absurd (of_decide_eq_true hx) (of_decide_eq_true h5)
        · simpa using hx2)
      rw [hc, List.drop_left, ← F_G r hap.2 t]
      exact ⟨h2, h3⟩
    · rintro ⟨h1, h2⟩
      refine ⟨l.take (cntK (c.toNat : Nat) l), l.drop (cntK (c.toNat : Nat) l), (List.take_append_drop _ _).symm, cntK_take _ l, ?_, by rw [F_G r hap.2]; exact h2⟩
      rw [List.length_take, Nat.min_eq_left (cntK_le _ l)]
      exact h1
end Go.Proofs.Ytemdfhaceddmpaa.Tr
