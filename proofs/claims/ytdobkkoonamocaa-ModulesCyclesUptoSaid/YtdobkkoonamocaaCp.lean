/- The plain law of ModulesCycles: no program in sight. -/
import Derived.Test.YtdobkkoonamocaaNp
namespace Go.Proofs.Ytdobkkoonamocaa.Mo
open Go.Lib
set_option linter.unusedVariables false
/-- The order of two lists of names of the same length. -/
def lessL : List Str → List Str → Bool
  | a :: x, b :: y => if a = b then lessL x y else decide (a < b)
  | _, _ => false
theorem lt_irr (a : Str) : ¬ a < a := List.lt_irrefl a
theorem lt_asy {a b : Str} (h : a < b) : ¬ b < a := fun k => lt_irr a (List.lt_trans h k)
theorem lt_tri {a b : Str} (h1 : ¬ a = b) (h2 : ¬ a < b) : b < a := by
  by_cases h : b < a
  · exact h
  · exact absurd (List.le_antisymm (List.not_lt.1 h) (List.not_lt.1 h2)) h1
theorem lessL_irr : ∀ x, lessL x x = false
  | [] => rfl
  | a :: x => by simp [lessL, lessL_irr x]
theorem lessL_app : ∀ (p x y : List Str), lessL (p ++ x) (p ++ y) = lessL x y
  | [], _, _ => rfl
  | a :: p, x, y => by simp [lessL, lessL_app p x y]
theorem lessL_asy : ∀ {x y : List Str}, lessL x y = true → lessL y x = false
  | [], _, h => by cases h
  | _ :: _, [], h => by cases h
  | a :: x, b :: y, h => by
    unfold lessL at h ⊢
    by_cases e : a = b
    · subst e
      rw [if_pos rfl] at h ⊢
      exact lessL_asy h
    · rw [if_neg e] at h
      rw [if_neg (Ne.symm e)]
      exact decide_eq_false (lt_asy (of_decide_eq_true h))
theorem lessL_eq : ∀ {x y : List Str}, x.length = y.length → lessL x y = false → lessL y x = false → x = y
  | [], [], _, _, _ => rfl
  | [], _ :: _, h, _, _ => by cases h
  | _ :: _, [], h, _, _ => by cases h
  | a :: x, b :: y, hl, h1, h2 => by
    unfold lessL at h1 h2
    by_cases e : a = b
    · subst e
      rw [if_pos rfl] at h1 h2
      rw [lessL_eq (by simpa using hl) h1 h2]
    · rw [if_neg e] at h1
      rw [if_neg (Ne.symm e)] at h2
      exact absurd (lt_tri e (of_decide_eq_false h1)) (of_decide_eq_false h2)
theorem lessL_tr : ∀ {x y z : List Str}, x.length = y.length → y.length = z.length → lessL x y = true → lessL y z = true → lessL x z = true
  | [], _, _, _, _, h, _ => by cases h
  | _ :: _, [], _, _, _, h, _ => by cases h
  | _ :: _, _ :: _, [], _, _, _, h => by cases h
  | a :: x, b :: y, c :: z, l1, l2, h1, h2 => by
    unfold lessL at h1 h2 ⊢
    by_cases e1 : a = b
    · subst e1
      rw [if_pos rfl] at h1
      by_cases e2 : a = c
      · subst e2
        rw [if_pos rfl] at h2 ⊢
        exact lessL_tr (by simpa using l1) (by simpa using l2) h1 h2
      · rw [if_neg e2] at h2 ⊢; exact h2
    · rw [if_neg e1] at h1
      have q1 := of_decide_eq_true h1
      by_cases e2 : b = c
      · subst e2
        rw [if_neg e1]; exact h1
      · rw [if_neg e2] at h2
        have q2 := of_decide_eq_true h2
        have q3 := List.lt_trans q1 q2
        rw [if_neg (fun e => by subst e; exact lt_irr _ q3)]
        exact decide_eq_true q3
/-- The first that gives something. -/
def firstS (f : Str → Option (List Str)) : List Str → Option (List Str)
  | [] => none
  | m :: r => match f m with
    | some l => some l
    | none => firstS f r
theorem firstS_none {f : Str → Option (List Str)} : ∀ {L : List Str}, firstS f L = none → ∀ m ∈ L, f m = none
  | m :: r, h, x, hx => by
    unfold firstS at h
    split at h
    · cases h
    · rename_i hm
      rcases List.mem_cons.1 hx with rfl | h2
      · exact hm
      · exact firstS_none h x h2
theorem firstS_some {f : Str → Option (List Str)} : ∀ {L : List Str} {l : List Str}, List.Pairwise (fun a b => a ≤ b) L → firstS f L = some l → ∃ m, m ∈ L ∧ f m = some l ∧ ∀ x ∈ L, x < m → f x = none
  | m :: r, l, hs, h => by
    unfold firstS at h
    split at h
    · rename_i l2 hm
      injection h with h
      subst h
      refine ⟨m, List.mem_cons_self, hm, fun x hx hlt => ?_⟩
      rcases List.mem_cons.1 hx with rfl | h2
      · exact absurd hlt (lt_irr _)
      · exact absurd hlt (List.not_lt.2 ((List.pairwise_cons.1 hs).1 x h2))
    · rename_i hm
      obtain ⟨m2, h1, h2, h3⟩ := firstS_some (List.pairwise_cons.1 hs).2 h
      refine ⟨m2, List.mem_cons_of_mem _ h1, h2, fun x hx hlt => ?_⟩
      rcases List.mem_cons.1 hx with rfl | h4
      · exact hm
      · exact h3 x h4 hlt
/-- A least one of those that P knows. -/
def Least (P : List Str → Prop) (o : Option (List Str)) : Prop := match o with
  | some l => P l ∧ ∀ l', P l' → lessL l' l = false
  | none => ∀ l', ¬ P l'
theorem first_least {L : List Str} (hs : List.Pairwise (fun a b => a ≤ b) L) {f : Str → Option (List Str)} {P : Str → List Str → Prop} {pre : List Str} (hf : ∀ m, Least (P m) (f m)) (hp : ∀ m l, P m l → ∃ r, l = pre ++ m :: r) :
    Least (fun l => ∃ m, m ∈ L ∧ P m l) (firstS f L) := by
  cases h : firstS f L with
  | none =>
    rintro l' ⟨m, hm, hP⟩
    have h1 := hf m
    rw [firstS_none h m hm] at h1
    exact h1 l' hP
  | some l =>
    obtain ⟨m, hm, hfm, hlt⟩ := firstS_some hs h
    have h1 := hf m
    rw [hfm] at h1
    refine ⟨⟨m, hm, h1.1⟩, ?_⟩
    rintro l' ⟨m', hm', hP'⟩
    by_cases e : m' = m
    · subst e; exact h1.2 l' hP'
    · by_cases e2 : m' < m
      · have h2 := hf m'
        rw [hlt m' hm' e2] at h2
        exact absurd hP' (h2 l')
      · obtain ⟨r, rfl⟩ := hp m l h1.1
        obtain ⟨r', rfl⟩ := hp m' l' hP'
        rw [lessL_app]
        unfold lessL
        rw [if_neg e]
        exact decide_eq_false e2
section
variable (nx : Str → List Str)
/-- Reached in at most so many steps. -/
def reachP (to : Str) : Nat → List Str → Bool
  | 0, _ => false
  | k + 1, here => let more := compact ((here.flatMap nx).mergeSort leS); more.contains to || reachP to k more
def hd (way : List Str) : Str := way.headD []
def la (way : List Str) : Str := way.getLastD []
/-- What walk gives, d modules ahead. -/
def walkP : Nat → List Str → Option (List Str)
  | 0, way => if (nx (la way)).contains (hd way) then some way else none
  | d + 1, way => if reachP nx (hd way) (d + 2) [la way] then firstS (fun m => if m ≤ hd way ∨ m ∈ way then none else walkP d (way ++ [m])) ((nx (la way)).mergeSort leS) else none
/-- The cycles that begin with a way, d modules ahead. -/
def Hits : Nat → List Str → List Str → Prop
  | 0, way, l => l = way ∧ hd way ∈ nx (la way)
  | d + 1, way, l => ∃ m, hd way < m ∧ m ∈ nx (la way) ∧ m ∉ way ∧ Hits d (way ++ [m]) l
theorem hd_snoc {way : List Str} (h : way ≠ []) (m : Str) : hd (way ++ [m]) = hd way := by
  cases way with
  | nil => exact absurd rfl h
  | cons a r => rfl
theorem la_snoc (way : List Str) (m : Str) : la (way ++ [m]) = m := by simp [la]
theorem snoc_ne (way : List Str) (m : Str) : way ++ [m] ≠ [] := by simp
theorem hits_pre : ∀ (d : Nat) {way l : List Str}, Hits nx d way l → ∃ r, l = way ++ r ∧ r.length = d
  | 0, way, l, h => ⟨[], by rw [h.1]; simp, rfl⟩
  | d + 1, way, l, h => by
    obtain ⟨m, _, _, _, h2⟩ := h
    obtain ⟨r, rfl, hr⟩ := hits_pre d h2
    exact ⟨m :: r, by simp, by simp [hr]⟩
theorem reach_more {to : Str} {k : Nat} {here : List Str} {x y : Str} (hx : x ∈ here) (hy : y ∈ nx x) : y ∈ compact ((here.flatMap nx).mergeSort leS) :=
  (compact_mem _ y).2 ((mem_sort _ y).2 (List.mem_flatMap.2 ⟨x, hx, hy⟩))
theorem hits_reach : ∀ (d : Nat) {way l : List Str}, way ≠ [] → Hits nx d way l → ∀ here, la way ∈ here → reachP nx (hd way) (d + 1) here = true
  | 0, way, l, hw, h, here, hh => by
    unfold reachP
    have h1 := reach_more nx (to := hd way) (k := 0) hh h.2
    simp [h1]
  | d + 1, way, l, hw, h, here, hh => by
    obtain ⟨m, _, hm, _, h2⟩ := h
    have h1 := reach_more nx (to := hd way) (k := 0) hh hm
    have h3 := hits_reach d (snoc_ne way m) h2 (compact ((here.flatMap nx).mergeSort leS)) (by rw [la_snoc]; exact h1)
    rw [hd_snoc hw] at h3
    rw [reachP]
    rw [h3, Bool.or_true]
theorem walk_least : ∀ (d : Nat) (way : List Str), way ≠ [] → Least (Hits nx d way) (walkP nx d way)
  | 0, way, hw => by
    unfold walkP
    by_cases h : (nx (la way)).contains (hd way) = true
    · rw [if_pos h]
      refine ⟨⟨rfl, by simpa using h⟩, ?_⟩
      rintro l' ⟨rfl, _⟩
      exact lessL_irr _
    · rw [if_neg h]
      rintro l' ⟨_, h2⟩
      exact h (by simpa using h2)
  | d + 1, way, hw => by
    unfold walkP
    by_cases h : reachP nx (hd way) (d + 2) [la way] = true
    · rw [if_pos h]
      have h1 := first_least (L := (nx (la way)).mergeSort leS) (sorted_ _) (f := fun m => if m ≤ hd way ∨ m ∈ way then none else walkP nx d (way ++ [m])) (P := fun m l => hd way < m ∧ m ∉ way ∧ Hits nx d (way ++ [m]) l) (pre := way)
        (fun m => by
          by_cases hm : m ≤ hd way ∨ m ∈ way
          · rw [if_pos hm]
            rintro l' ⟨a, b, _⟩
            rcases hm with hm | hm
            · exact absurd a (List.not_lt.2 hm)
            · exact b hm
          · rw [if_neg hm]
            have ih := walk_least d (way ++ [m]) (snoc_ne way m)
            have q1 : hd way < m := Classical.byContradiction fun e => hm (.inl (List.not_lt.1 e))
            have q2 : m ∉ way := fun e => hm (.inr e)
            cases e : walkP nx d (way ++ [m]) with
            | none =>
              rw [e] at ih
              rintro l' ⟨_, _, c⟩
              exact ih l' c
            | some l =>
              rw [e] at ih
              exact ⟨⟨q1, q2, ih.1⟩, fun l' h' => ih.2 l' h'.2.2⟩)
        (fun m l hP => by
          obtain ⟨r, hr, _⟩ := hits_pre nx d hP.2.2
          exact ⟨r, by rw [hr]; simp⟩)
      have e : (fun l => ∃ m, m ∈ (nx (la way)).mergeSort leS ∧ hd way < m ∧ m ∉ way ∧ Hits nx d (way ++ [m]) l) = Hits nx (d + 1) way := by
        funext l
        refine propext ⟨?_, ?_⟩
        · rintro ⟨m, a, b, c, e⟩; exact ⟨m, b, (mem_sort _ m).1 a, c, e⟩
        · rintro ⟨m, b, a, c, e⟩; exact ⟨m, (mem_sort _ m).2 a, b, c, e⟩
      rw [e] at h1
      exact h1
    · rw [if_neg h]
      intro l' hl
      exact h (hits_reach nx (d + 1) hw hl [la way] (by simp))
/-- What Cycle gives, from a size on. -/
def cycleP (N : List Str) : Nat → Nat → Option (List Str)
  | 0, _ => none
  | k + 1, d => match firstS (fun s => walkP nx d [s]) (N.mergeSort leS) with
    | some l => some l
    | none => cycleP N k (d + 1)
/-- The cycles of a size. -/
def Cyc (N : List Str) (d : Nat) (l : List Str) : Prop := ∃ s, s ∈ N ∧ Hits nx d [s] l
theorem size_least (N : List Str) (d : Nat) : Least (Cyc nx N d) (firstS (fun s => walkP nx d [s]) (N.mergeSort leS)) := by
  have h1 := first_least (L := N.mergeSort leS) (sorted_ _) (f := fun s => walkP nx d [s]) (P := fun s l => Hits nx d [s] l) (pre := []) (fun s => walk_least nx d [s] (by simp))
    (fun m l hP => by obtain ⟨r, hr, _⟩ := hits_pre nx d hP; exact ⟨r, by rw [hr]; simp⟩)
  have e : (fun l => ∃ m, m ∈ N.mergeSort leS ∧ Hits nx d [m] l) = Cyc nx N d := by
    funext l
    exact propext ⟨fun ⟨m, a, b⟩ => ⟨m, (mem_sort _ m).1 a, b⟩, fun ⟨m, a, b⟩ => ⟨m, (mem_sort _ m).2 a, b⟩⟩
  rw [e] at h1
  exact h1
theorem cyc_len {N : List Str} {d : Nat} {l : List Str} (h : Cyc nx N d l) : l.length = d + 1 := by
  obtain ⟨s, _, h⟩ := h
  obtain ⟨r, rfl, hr⟩ := hits_pre nx d h
  simp [hr]
/-- One cycle is better than another one. -/
def better (l b : List Str) : Bool := decide (l.length < b.length) || (decide (l.length = b.length) && lessL l b)
/-- The best one of those that P knows. -/
def Best (P : List Str → Prop) (o : Option (List Str)) : Prop := match o with
  | some l => P l ∧ ∀ l', P l' → better l' l = false
  | none => ∀ l', ¬ P l'
theorem better_eq {a b : List Str} (h1 : better a b = false) (h2 : better b a = false) : a = b := by
  unfold better at h1 h2
  simp only [Bool.or_eq_false_iff, decide_eq_false_iff_not] at h1 h2
  have hl : a.length = b.length := by omega
  have q1 := h1.2
  have q2 := h2.2
  rw [decide_eq_true hl, Bool.true_and] at q1
  rw [decide_eq_true hl.symm, Bool.true_and] at q2
  exact lessL_eq hl q1 q2
theorem best_uniq {P : List Str → Prop} : ∀ {a b : Option (List Str)}, Best P a → Best P b → a = b
  | none, none, _, _ => rfl
  | some x, none, h1, h2 => absurd h1.1 (h2 x)
  | none, some y, h1, h2 => absurd h2.1 (h1 y)
  | some x, some y, h1, h2 => by rw [better_eq (h2.2 x h1.1) (h1.2 y h2.1)]
theorem cycle_best (N : List Str) : ∀ (k d : Nat), Best (fun l => ∃ e, d ≤ e ∧ e < d + k ∧ Cyc nx N e l) (cycleP nx N k d) := by
  intro k
  induction k with
  | zero => intro d; rintro l' ⟨e, h1, h2, _⟩; omega
  | succ k ih =>
    intro d
    unfold cycleP
    have h1 := size_least nx N d
    cases h : firstS (fun s => walkP nx d [s]) (N.mergeSort leS) with
    | some l =>
      rw [h] at h1
      refine ⟨⟨d, Nat.le_refl _, by omega, h1.1⟩, ?_⟩
      rintro l' ⟨e, q1, q2, q3⟩
      have e1 := cyc_len nx h1.1
      have e2 := cyc_len nx q3
      unfold better
      rw [e1, e2]
      by_cases he : e = d
      · subst he
        rw [h1.2 l' q3]; simp
      · rw [decide_eq_false (by omega), decide_eq_false (by omega)]; rfl
    | none =>
      rw [h] at h1
      have h2 := ih (d + 1)
      dsimp only
      cases hc : cycleP nx N k (d + 1) with
      | none =>
        rw [hc] at h2
        rintro l' ⟨e, q1, q2, q3⟩
        by_cases he : e = d
        · subst he; exact h1 l' q3
        · exact h2 l' ⟨e, by omega, by omega, q3⟩
      | some l =>
        rw [hc] at h2
        obtain ⟨⟨e, q1, q2, q3⟩, h3⟩ := h2
        refine ⟨⟨e, by omega, by omega, q3⟩, ?_⟩
        rintro l' ⟨e', r1, r2, r3⟩
        by_cases he : e' = d
        · subst he; exact absurd r3 (h1 l')
        · exact h3 l' ⟨e', by omega, by omega, r3⟩
/-- The reference's enumeration, with so much fuel. -/
def cycL (N : List Str) : Nat → List Str → List (List Str)
  | 0, _ => []
  | f + 1, way => (if (nx (la way)).contains (hd way) then [way] else []) ++ (N.filter (fun s => decide (hd way < s) && (nx (la way)).contains s && !way.contains s)).flatMap (fun s => cycL N f (way ++ [s]))
theorem cycL_mem (N : List Str) (hN : ∀ s x, x ∈ nx s → x ∈ N) : ∀ (f : Nat) (way l : List Str), l ∈ cycL nx N f way ↔ ∃ d, d < f ∧ Hits nx d way l := by
  intro f
  induction f with
  | zero => intro way l; simp [cycL]
  | succ f ih =>
    intro way l
    unfold cycL
    rw [List.mem_append, List.mem_flatMap]
    constructor
    · rintro (h | ⟨s, hs, h⟩)
      · split at h
        · rename_i hc
          exact ⟨0, by omega, by simpa using h, by simpa using hc⟩
        · cases h
      · obtain ⟨d, hd1, h2⟩ := (ih _ _).1 h
        obtain ⟨h3, h4⟩ := List.mem_filter.1 hs
        simp only [Bool.and_eq_true, decide_eq_true_eq, Bool.not_eq_true', List.contains_eq_mem, decide_eq_false_iff_not] at h4
        exact ⟨d + 1, by omega, s, h4.1.1, h4.1.2, h4.2, h2⟩
    · rintro ⟨d, hd1, h⟩
      cases d with
      | zero =>
        left
        rw [if_pos (by simpa using h.2)]
        simpa using h.1
      | succ d =>
        right
        obtain ⟨m, h1, h2, h3, h4⟩ := h
        refine ⟨m, List.mem_filter.2 ⟨hN _ _ h2, ?_⟩, (ih _ _).2 ⟨d, by omega, h4⟩⟩
        simp only [Bool.and_eq_true, decide_eq_true_eq, Bool.not_eq_true', List.contains_eq_mem, decide_eq_false_iff_not]
        exact ⟨⟨h1, h2⟩, h3⟩
/-- The reference's choice. -/
def pickB (b : Option (List Str)) (l : List Str) : Option (List Str) := match b with
  | none => some l
  | some x => if better l x then some l else some x
theorem better_irr (l : List Str) : better l l = false := by unfold better; simp [lessL_irr]
theorem better_tr {a b c : List Str} (h1 : better a b = false) (h2 : better c b = true) : better a c = false := by
  unfold better at h1 h2 ⊢
  simp only [Bool.or_eq_false_iff, decide_eq_false_iff_not, Bool.or_eq_true, decide_eq_true_eq, Bool.and_eq_true, Bool.and_eq_false_iff] at h1 h2 ⊢
  refine ⟨by omega, ?_⟩
  by_cases e : a.length = c.length
  · right
    rcases h2 with h2 | ⟨h2, h3⟩
    · omega
    · rcases h1.2 with h4 | h4
      · omega
      · cases hac : lessL a c with
        | false => rfl
        | true => rw [lessL_tr e h2 hac h3] at h4; cases h4
  · left; exact e
theorem pick_best : ∀ (L : List (List Str)) (b : Option (List Str)) (Q : List Str → Prop), Best Q b → Best (fun l => Q l ∨ l ∈ L) (L.foldl pickB b)
  | [], b, Q, h => by
    have e : (fun l => Q l ∨ l ∈ ([] : List (List Str))) = Q := by funext l; simp
    rw [e]; exact h
  | l :: L, b, Q, h => by
    have h2 : Best (fun x => Q x ∨ x = l) (pickB b l) := by
      cases b with
      | none =>
        refine ⟨.inr rfl, ?_⟩
        rintro x (hx | rfl)
        · exact absurd hx (h x)
        · exact better_irr _
      | some y =>
        unfold pickB
        dsimp only
        by_cases hb : better l y = true
        · rw [if_pos hb]
          refine ⟨.inr rfl, ?_⟩
          rintro x (hx | rfl)
          · exact better_tr (h.2 x hx) hb
          · exact better_irr _
        · rw [if_neg hb]
          refine ⟨.inl h.1, ?_⟩
          rintro x (hx | rfl)
          · exact h.2 x hx
          · simpa using hb
    have h3 := pick_best L (pickB b l) _ h2
    have e : (fun x => (Q x ∨ x = l) ∨ x ∈ L) = (fun x => Q x ∨ x ∈ l :: L) := by funext x; simp [or_assoc]
    rw [e] at h3
    exact h3
/-- The reference's answer. -/
def bestP (N : List Str) (f : Nat) : Option (List Str) := (N.flatMap fun s => cycL nx N f [s]).foldl pickB none
/-- Both agree. -/
theorem cycle_same (N : List Str) (hN : ∀ s x, x ∈ nx s → x ∈ N) (f : Nat) : bestP nx N f = cycleP nx N f 0 := by
  refine best_uniq (P := fun l => ∃ e, 0 ≤ e ∧ e < 0 + f ∧ Cyc nx N e l) ?_ (cycle_best nx N f 0)
  have h := pick_best (N.flatMap fun s => cycL nx N f [s]) none (fun _ => False) (fun _ h => h)
  have e : (fun l => False ∨ l ∈ N.flatMap fun s => cycL nx N f [s]) = fun l => ∃ e, 0 ≤ e ∧ e < 0 + f ∧ Cyc nx N e l := by
    funext l
    refine propext ⟨?_, ?_⟩
    · rintro (h | h)
      · exact h.elim
      · obtain ⟨s, hs, h2⟩ := List.mem_flatMap.1 h
        obtain ⟨d, h3, h4⟩ := (cycL_mem nx N hN f [s] l).1 h2
        exact ⟨d, Nat.zero_le _, by omega, s, hs, h4⟩
    · rintro ⟨d, _, h3, s, hs, h4⟩
      exact .inr (List.mem_flatMap.2 ⟨s, hs, (cycL_mem nx N hN f [s] l).2 ⟨d, by omega, h4⟩⟩)
  rw [e] at h
  exact h
end
end Go.Proofs.Ytdobkkoonamocaa.Mo
