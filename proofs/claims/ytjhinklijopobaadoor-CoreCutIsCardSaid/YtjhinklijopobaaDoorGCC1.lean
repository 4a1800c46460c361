import Derived.Test.YtjhinklijopobaaDoorGCC0
import Derived.Test.YtjhinklijopobaaDoorPCoreChecksx9
import Derived.Test.YtjhinklijopobaaDoorPCoreChecksx17
namespace Go.Proofs.YtjhinklijopobaaDoor.Co
open Go.RowKit Go.Proofs.YtjhinklijopobaaDoor.PCoreChecks Go.Proofs.YtjhinklijopobaaDoorW.PrintWords Go.Proofs.YtjhinklijopobaaDoorW.PrintLast Go.Proofs.YtjhinklijopobaaDoorW.PrintMore
set_option linter.unusedVariables false
set_option linter.unusedSimpArgs false

/-- A node whose parts are short enough for counting. -/
structure Small (x : S28) : Prop where
  b : x.f2.length ≤ 17592186044416
  k : x.f3.length ≤ 17592186044416
  a : x.f4.length ≤ 17592186044416
  ab : ∀ y ∈ x.f4, y.f1.length ≤ 17592186044416
theorem Evs.step2 {α : Type} {f g : Nat → Option α} {r : α} (hg : Evs g r) (h : ∀ k, f (k + 1 + 1) = g k) : Evs f r := by
  obtain ⟨K, hK⟩ := hg
  refine ⟨K + 2, fun k hk => ?_⟩
  obtain ⟨m, rfl⟩ : ∃ m, k = m + 1 + 1 := ⟨k - 2, by omega⟩
  rw [h m]
  exact hK m (by omega)
theorem Evs.now2 {α : Type} {f : Nat → Option α} {r : α} (h : ∀ k, f (k + 1 + 1) = some r) : Evs f r := ⟨2, fun k hk => by obtain ⟨m, rfl⟩ : ∃ m, k = m + 1 + 1 := ⟨k - 2, by omega⟩; exact h m⟩
theorem Evs.val {α : Type} {f : Nat → Option α} {r s : α} (h : Evs f r) (e : r = s) : Evs f s := e ▸ h
theorem rdA_nat (l : List S86) (i : Nat) (hi : i < l.length) : rd_T86 l (i : Int) = l[i]'hi := by
  unfold rd_T86
  rw [Int.toNat_natCast, List.getD_eq_getElem?_getD, List.getElem?_eq_getElem hi]; rfl
theorem up_nat (i : Nat) (h : i ≤ 17592186044416) : wrap64 ((i : Int) + 1) = ((i + 1 : Nat) : Int) := by rw [wrap_small (by omega) (by omega)]; omega
def inB (n lo hi : Int) : Bool := decide (lo ≤ n) && decide (n ≤ hi)
theorem inside_f (n lo hi : Int) : provenanceref2_inside.f n lo hi = some (inB n lo hi) := by
  unfold provenanceref2_inside.f inB
  by_cases h : lo ≤ n
  · rw [if_pos h, decide_eq_true h]; rfl
  · rw [if_neg h, decide_eq_false h]; rfl
theorem between_f (n lo hi : Int) : core_between.f n lo hi = some (inB n lo hi) := by
  unfold core_between.f inB
  by_cases h : lo ≤ n
  · rw [if_pos h, decide_eq_true h]; rfl
  · rw [if_neg h, decide_eq_false h]; rfl
def idB (n : Int) : Bool := inB n 0 1048575
/-- The numbers of an alternative are in their ranges. -/
def altR (op : Int) (a : S86) : Bool := !(decide (1048576 ≤ a.f0) || (decide (op = 7) && decide (255 < a.f0))) && a.f1.all idB
def longest (l : List S86) (m : Int) : Int := l.foldl (fun m a => mx m (a.f1.length : Int)) m
def largeB (op nb nk long : Int) : Bool :=
  ((decide (op = 2) && decide (6 < nb)) || (decide (op = 3) && decide (7 < nk)) || (decide (op = 14) && decide (6 < nk))) || ((decide (op = 6) || decide (op = 15)) && decide (16 < nk)) || decide (16 < nb) || decide (16 < long)
def loB (op : Int) : Int := if op = 1 then -1073741824 else if op = 6 then 0 else if op = 17 then 1 else if op = 16 then 0 else 0
def hiB (op : Int) : Int := if op = 1 then 1073741823 else if op = 6 then 255 else if op = 17 then 6 else if op = 16 then 15 else 1048575
/-- The error of the numbers of a node. -/
def numErr (x : S28) : Int :=
  if inB x.f1 (loB x.f0) (hiB x.f0) = true then (if x.f2.all idB = true then (if x.f4.all (altR x.f0) = true then (if largeB x.f0 x.f2.length x.f3.length (longest x.f4 0) = true then 2 else 0) else 4) else 4) else 4

theorem all_drop {α : Type} (p : α → Bool) (l : List α) (i : Nat) (h : i < l.length) : (l.drop i).all p = (p (l[i]'h) && (l.drop (i + 1)).all p) := by
  rw [List.drop_eq_getElem_cons h, List.all_cons]
theorem longest_drop (l : List S86) (i : Nat) (h : i < l.length) (m : Int) : longest (l.drop i) m = longest (l.drop (i + 1)) (mx m ((l[i]'h).f1.length : Int)) := by
  rw [List.drop_eq_getElem_cons h]; rfl

end Go.Proofs.YtjhinklijopobaaDoor.Co
namespace Go.Proofs.YtjhinklijopobaaDoor.Co
open Go.RowKit Go.Proofs.YtjhinklijopobaaDoor.PCoreChecks Go.Proofs.YtjhinklijopobaaDoorW.PrintWords Go.Proofs.YtjhinklijopobaaDoorW.PrintLast Go.Proofs.YtjhinklijopobaaDoorW.PrintMore
set_option linter.unusedVariables false
set_option linter.unusedSimpArgs false
/-! ### The numbers of a node as the program checks them -/
def largeC (op nk x5 : Int) : Bool := decide ((if op = 2 then 6 else 16) < x5) || ((decide (op = 6) || decide (op = 15)) && decide (16 < nk)) || (decide (op = 3) && decide (7 < nk)) || (decide (op = 14) && decide (6 < nk))
theorem longest_mx (l : List S86) : ∀ m : Int, longest l m = mx m (longest l 0) ∨ (m < 0) := by
  refine snoc_ind (P := fun l => ∀ m : Int, longest l m = mx m (longest l 0) ∨ (m < 0)) (fun m => ?_) (fun l x ih m => ?_) l
  · by_cases hm : m < 0
    · exact Or.inr hm
    · left; rw [show longest ([] : List S86) m = m from rfl, show longest ([] : List S86) 0 = 0 from rfl]; unfold mx; rw [if_neg hm]
  · have e : ∀ m, longest (l ++ [x]) m = mx (longest l m) (x.f1.length : Int) := fun m => by unfold longest; rw [List.foldl_append]; rfl
    rw [e, e]
    rcases ih m with h | h
    · left; rw [h]; unfold mx; (repeat' split) <;> omega
    · right; exact h
theorem large_same (op : Int) (bs ks : List Int) (al : List S86) (h2 : op = 2 → al = []) : largeC op ks.length (longest al bs.length) = largeB op bs.length ks.length (longest al 0) := by
  have h := (longest_mx al bs.length).resolve_right (by omega)
  rw [h]
  by_cases e : op = 2
  · have := h2 e
    subst e this
    have e0 : longest [] 0 = 0 := rfl
    have e1 : mx (bs.length : Int) 0 = bs.length := by unfold mx; rw [if_neg (by omega)]
    rw [e0, e1]
    unfold largeC largeB
    by_cases ha : 6 < (bs.length : Int)
    · simp [ha]
    · have : ¬ 16 < (bs.length : Int) := by omega
      simp [ha, this]
  · unfold largeC largeB mx
    rw [if_neg e]
    by_cases hc : (bs.length : Int) < longest al 0
    · rw [if_pos hc]
      by_cases ha : 16 < longest al 0
      · simp [ha]
      · have : ¬ 16 < (bs.length : Int) := by omega
        simp only [e, ha, this, decide_false, decide_true, Bool.false_and, Bool.false_or, Bool.or_false]
        cases (decide (op = 3) && decide (7 < (ks.length : Int))) <;> cases (decide (op = 14) && decide (6 < (ks.length : Int))) <;> cases ((decide (op = 6) || decide (op = 15)) && decide (16 < (ks.length : Int))) <;> rfl
    · rw [if_neg hc]
      by_cases ha : 16 < (bs.length : Int)
      · simp [ha]
      · have : ¬ 16 < longest al 0 := by omega
        simp only [e, ha, this, decide_false, decide_true, Bool.false_and, Bool.false_or, Bool.or_false]
        cases (decide (op = 3) && decide (7 < (ks.length : Int))) <;> cases (decide (op = 14) && decide (6 < (ks.length : Int))) <;> cases ((decide (op = 6) || decide (op = 15)) && decide (16 < (ks.length : Int))) <;> rfl
end Go.Proofs.YtjhinklijopobaaDoor.Co
namespace Go.Proofs.YtjhinklijopobaaDoor.Co
open Go.RowKit Go.Proofs.YtjhinklijopobaaDoor.PCoreChecks Go.Proofs.YtjhinklijopobaaDoorW.PrintWords Go.Proofs.YtjhinklijopobaaDoorW.PrintLast Go.Proofs.YtjhinklijopobaaDoorW.PrintMore
set_option linter.unusedVariables false
set_option linter.unusedSimpArgs false

/-- The number of kids that a node must have, and whether its number is used. -/
def kidsN (op n nb nk na : Int) : Int × Bool :=
  if op = 0 ∨ op = 1 ∨ op = 17 then (0, true) else if op = 2 then (1, false) else if op = 4 then (2, false) else if op = 3 then (mx nk 1, false) else if op = 5 then (nb + 1, false)
  else if op = 7 ∨ op = 13 then (na + 1, false) else if op = 9 then (nb, false) else if op = 10 ∨ op = 12 ∨ op = 16 then (1, true) else if op = 11 then (2, true) else if op = 6 ∨ op = 14 ∨ op = 15 then (nk, true)
  else if op = 8 then (if n = 7 ∨ n = 9 then (1, true) else if n = 11 then (3, true) else if 0 ≤ n ∧ n < 11 then (2, true) else (-1, false)) else (-1, false)
/-- Alternative i is right. -/
def altOk (op : Int) (al : List S86) (i : Nat) : Bool :=
  if (al.take i).any (fun b => decide (b.f0 = (rd_T86 al i).f0)) = true then false else if (rd_T86 al i).f0 < -1 then false
  else if op = 7 ∧ (rd_T86 al i).f0 = -1 ∧ (i + 1 < al.length ∨ (rd_T86 al i).f1.length ≠ 0) then false
  else if op = 13 ∧ ((i = 0 ∧ ((rd_T86 al i).f0 ≠ -1 ∨ (rd_T86 al i).f1.length ≠ 1)) ∨ (0 < i ∧ ((rd_T86 al i).f0 < 0 ∨ (rd_T86 al i).f1.length ≠ 2))) then false else true
/-- The alternatives of a node are right. -/
def altsB (op : Int) (al : List S86) : Bool :=
  if op = 7 ∨ op = 13 then (List.range al.length).all (altOk op al) && (decide (op = 7) || decide (0 < al.length)) else decide (al.length = 0)
end Go.Proofs.YtjhinklijopobaaDoor.Co
namespace Go.Proofs.YtjhinklijopobaaDoor.Co
open Go.RowKit Go.Proofs.YtjhinklijopobaaDoor.PCoreChecks Go.Proofs.YtjhinklijopobaaDoorW.PrintWords Go.Proofs.YtjhinklijopobaaDoorW.PrintLast Go.Proofs.YtjhinklijopobaaDoorW.PrintMore
set_option linter.unusedVariables false
set_option linter.unusedSimpArgs false

def flatOp (op : Int) : Bool := if op = 14 then true else if op = 15 then true else op == 16
def coreOp (op : Int) : Bool := if op = 2 then true else if op = 5 then true else if op = 12 then true else op == 13
/-- The operation does not occur here. -/
def opBad (flat : Bool) (op : Int) : Bool := (flatOp op && !flat) || (coreOp op && flat)
def bindsB (op nb : Int) : Bool := if op = 2 then true else if op = 9 then true else if op = 4 then nb == 1 else if op = 5 then decide (nb > 0) else nb == 0
/-- The parts of a node are right. -/
def shapeB (x : S28) : Bool := decide ((kidsN x.f0 x.f1 x.f2.length x.f3.length x.f4.length).1 = (x.f3.length : Int)) && (((kidsN x.f0 x.f1 x.f2.length x.f3.length x.f4.length).2 || decide (x.f1 = 0)) && (altsB x.f0 x.f4 && bindsB x.f0 x.f2.length))
def formB (flat : Bool) (x : S28) : Bool := !opBad flat x.f0 && shapeB x

/-- The kids and the labels of a node are right. -/
def kidB (t : List S28) (x : S28) (i : Nat) : Bool := !((decide (x.f0 = 5) && decide ((rd_T28 t (rd x.f3 i)).f0 ≠ 2)) || (decide (x.f0 = 9) && (decide (0 < i) && decide (rd x.f2 i ≤ rd x.f2 ((i : Int) - 1)))))
def kidsB (t : List S28) (x : S28) : Bool := (List.range x.f2.length).all (kidB t x)
end Go.Proofs.YtjhinklijopobaaDoor.Co
namespace Go.Proofs.YtjhinklijopobaaDoor.Co
open Go.RowKit Go.Proofs.YtjhinklijopobaaDoor.PCoreChecks Go.Proofs.YtjhinklijopobaaDoorW.PrintWords Go.Proofs.YtjhinklijopobaaDoorW.PrintLast Go.Proofs.YtjhinklijopobaaDoorW.PrintMore
set_option linter.unusedVariables false
set_option linter.unusedSimpArgs false

/-- What a node binds in a kid. -/
def scopeOf (x : S28) (k : Nat) : List Int := if x.f0 = 2 ∨ x.f0 = 5 ∨ (x.f0 = 4 ∧ k = 1) then x.f2 else if (x.f0 = 7 ∨ x.f0 = 13) ∧ 0 < k then (rd_T86 x.f4 (k - 1 : Nat)).f1 else []
/-- A row of numbers is answered. -/
def RowP (l : List Int) (w : World) (e : Ending) (w' : World) : Prop := ∃ A c, e = .returned (.slice A l.length c) ∧ l.length ≤ c ∧ Kd.C (Kd.int .i64) w' A l.length l ∧ Below w.heap.size w w'

theorem RowP.mk {l : List Int} {w w' : World} {A : Option Addr} {c : Nat} (hc : l.length ≤ c) (hC : Kd.C (Kd.int .i64) w A l.length l) (hb : Below w.heap.size w w') : RowP l w (.returned (.slice A l.length c)) w' := ⟨A, c, rfl, hc, Kd.C_below hC hb, hb⟩
theorem RowP.nil {w w' : World} (hb : Below w.heap.size w w') : RowP [] w (.returned (.slice none 0 0)) w' := ⟨none, 0, rfl, Nat.le_refl _, Kd.C_nil _ _, hb⟩

set_option maxHeartbeats 4000000 in
set_option maxRecDepth 100000 in
theorem scopeR_calls (x : S28) (k : Nat) (hk9 : (k : Int) ≤ 9223372036854775807) (A2 : Option Addr) (c2 : Nat) (A3 : Option Addr) (c3 : Nat) (A4 : Option Addr) (c4 : Nat) (w : World)
    (g2 : Kd.C (Kd.int .i64) w A2 x.f2.length x.f2) (l2 : x.f2.length ≤ c2) (g4 : Kd.C k86 w A4 x.f4.length x.f4) (hk : (x.f0 = 7 ∨ x.f0 = 13) → 0 < k → k - 1 < x.f4.length) :
    Calls Tryd.prog 81 #[.agg #[.int .i64 x.f0, .int .i64 x.f1, .slice A2 x.f2.length c2, .slice A3 x.f3.length c3, .slice A4 x.f4.length c4], .int .i64 (k : Int)] w (RowP (scopeOf x k) w) := by
  obtain ⟨op, n, bs, ks, al⟩ := x
  simp only at g2 l2 g4 hk ⊢
  have HB := Go.Lib.hid (below_alloc (Below.refl w.heap.size w) (.cells #[.int .i64 op, .int .i64 n, .slice A2 bs.length c2, .slice A3 ks.length c3, .slice A4 al.length c4] 28))
  have H2 := Go.Lib.hid (RowP.mk l2 g2 HB.out)
  have H0 := Go.Lib.hid (RowP.nil HB.out)
  have G4 := Go.Lib.hid g4
  have HK := Go.Lib.hid hk
  clear g2 g4 l2 hk
  by_cases h2 : op = 2
  · subst h2
    have e : scopeOf ⟨2, n, bs, ks, al⟩ k = bs := rfl
    rw [e]
    clear e
    go_enter Tryd.func81, Tryd.ntmps81
    go_wp2_with fail
    go_ret
    exact H2.out
  by_cases h5 : op = 5
  · subst h5
    have e : scopeOf ⟨5, n, bs, ks, al⟩ k = bs := rfl
    rw [e]
    clear e
    go_enter Tryd.func81, Tryd.ntmps81
    go_wp2_with fail
    go_ret
    exact H2.out
  by_cases h4 : op = 4
  · subst h4
    by_cases hk1 : k = 1
    · subst hk1
      have e : scopeOf ⟨4, n, bs, ks, al⟩ 1 = bs := rfl
      rw [e]
      clear e
      go_enter Tryd.func81, Tryd.ntmps81
      go_wp2_with fail
      go_ret
      exact H2.out
    · have hb1 : ((k : Int) == 1) = false := beq_eq_false_iff_ne.2 (by omega)
      have hb2 : (k == 1) = false := beq_eq_false_iff_ne.2 hk1
      have e : scopeOf ⟨4, n, bs, ks, al⟩ k = [] := by unfold scopeOf; simp [hk1]
      rw [e]
      clear e h2 h5
      go_enter Tryd.func81, Tryd.ntmps81
      go_wp2_with fail
      go_ret
      exact H0.out
  have hb2 : (op == 2) = false := beq_eq_false_iff_ne.2 h2
  have hb5 : (op == 5) = false := beq_eq_false_iff_ne.2 h5
  have hb4 : (op == 4) = false := beq_eq_false_iff_ne.2 h4
  by_cases h : (op = 7 ∨ op = 13) ∧ 0 < k
  · obtain ⟨h7, h0⟩ := h
    have e : scopeOf ⟨op, n, bs, ks, al⟩ k = (rd_T86 al (k - 1 : Nat)).f1 := by unfold scopeOf; simp only [h2, h5, h4, false_and, or_self, if_false]; rw [if_pos ⟨h7, h0⟩]
    rw [e]
    have hkl := HK.out h7 h0
    obtain ⟨ad, A1, c1, ea, p0, p1, q1, q2⟩ := at_T86 G4.out ((k - 1 : Nat) : Int) (by omega) (by omega)
    subst ea
    have H3 := Go.Lib.hid (RowP.mk q1 q2 HB.out)
    generalize (rd_T86 al ((k - 1 : Nat) : Int)) = a at p0 p1 H3
    rw [Int.toNat_natCast] at p0 p1
    have hi0 : (0 : Int) ≤ (k : Int) - 1 := by omega
    have hi1 : (k : Int) - 1 < (al.length : Int) := by omega
    have hi2 : ((k : Int) - 1).toNat = k - 1 := by omega
    have hk0 : decide ((0 : Int) < (k : Int)) = true := decide_eq_true (by omega)
    have hk0' : decide (0 < k) = true := decide_eq_true h0
    replace p1 := pw_cell_below HB.out p1
    replace p0 := pw_cell_below HB.out p0
    clear e h2 h5 h4 q1 q2
    by_cases h77 : op = 7
    · subst h77
      clear h7
      go_enter Tryd.func81, Tryd.ntmps81
      go_wp2_with fail
      go_ret
      exact H3.out
    · have hb7 : (op == 7) = false := beq_eq_false_iff_ne.2 h77
      have h13 : op = 13 := h7.resolve_left h77
      subst h13
      clear h7 h77
      go_enter Tryd.func81, Tryd.ntmps81
      go_wp2_with fail
      go_ret
      exact H3.out
  · have e : scopeOf ⟨op, n, bs, ks, al⟩ k = [] := by unfold scopeOf; simp only [h2, h5, h4, false_and, or_self, if_false]; rw [if_neg h]
    rw [e]
    clear e
    by_cases h7 : op = 7 ∨ op = 13
    · have hk0 : k = 0 := by
        have : ¬ 0 < k := fun h1 => h ⟨h7, h1⟩
        omega
      subst hk0
      by_cases h77 : op = 7
      · subst h77
        clear h7 h h2 h5 h4
        go_enter Tryd.func81, Tryd.ntmps81
        go_wp2_with fail
        go_ret
        exact H0.out
      · have h13 : op = 13 := h7.resolve_left h77
        subst h13
        clear h7 h h2 h5 h4
        go_enter Tryd.func81, Tryd.ntmps81
        go_wp2_with fail
        go_ret
        exact H0.out
    · have hb7 : (op == 7) = false := beq_eq_false_iff_ne.2 (fun e => h7 (Or.inl e))
      have hb13 : (op == 13) = false := beq_eq_false_iff_ne.2 (fun e => h7 (Or.inr e))
      clear h7 h h2 h5 h4
      go_enter Tryd.func81, Tryd.ntmps81
      go_wp2_with fail
      go_ret
      exact H0.out
end Go.Proofs.YtjhinklijopobaaDoor.Co
namespace Go.Proofs.YtjhinklijopobaaDoor.Co
open Go.RowKit Go.Proofs.YtjhinklijopobaaDoor.PCoreChecks Go.Proofs.YtjhinklijopobaaDoorW.PrintWords Go.Proofs.YtjhinklijopobaaDoorW.PrintLast Go.Proofs.YtjhinklijopobaaDoorW.PrintMore
set_option linter.unusedVariables false
set_option linter.unusedSimpArgs false

/-- A node binds n in its kid c. -/
def hitB (x : S28) (c n : Int) : Bool := (List.range x.f3.length).any fun k => decide (rd x.f3 (k : Nat) = c) && decide (n ∈ scopeOf x k)
/-- The node that binds n on the way up from c. -/
inductive Bd (t : List S28) (P : List Int) (n : Int) : Nat → Int → Prop
  | stop (c : Nat) : P[c]? = some (-1) → Bd t P n c (-1)
  | hit (c p : Nat) : P[c]? = some (p : Int) → hitB (rd_T28 t (p : Int)) c n = true → Bd t P n c p
  | up (c p : Nat) (r : Int) : P[c]? = some (p : Int) → hitB (rd_T28 t (p : Int)) c n = false → Bd t P n p r → Bd t P n c r
def BdP (t : List S28) (P : List Int) (n : Int) (c : Nat) (w : World) (e : Ending) (w' : World) : Prop := ∃ r, e = .returned (.int .i64 r) ∧ Bd t P n c r ∧ Below w.heap.size w w'
theorem BdP.mk {t : List S28} {P : List Int} {n : Int} {c : Nat} {w w' : World} {r : Int} (h : Bd t P n c r) (hb : Below w.heap.size w w') : BdP t P n c w (.returned (.int .i64 r)) w' := ⟨r, rfl, h, hb⟩

theorem below_dn {B : Nat} {a w : World} (h : Below B a w) (n : Nat) : Below B a (w.drewN n) := ⟨h.os, h.tape, h.output, h.size, h.block⟩
/-- What stays through the question whether a node binds. -/
def Rst (w : World) (g : Nat) (P : List Int) (w' : World) : Prop := IA w' g P ∧ Below w.heap.size w w'
def Cells (ad : Addr) (p : Nat) (x : S28) (A2 A3 A4 : Option Addr) (c2 c3 c4 : Nat) (ad1 : Addr) (a : Nat) (N : Int) (w : World) (g : Nat) (P : List Int) (w' : World) : Prop :=
  w'.cell? (ad.add (p * 5)) = some (.int .i64 x.f0) ∧ w'.cell? ⟨(ad.add (p * 5)).block, (ad.add (p * 5)).off + 1, none⟩ = some (.int .i64 x.f1) ∧ w'.cell? ⟨(ad.add (p * 5)).block, (ad.add (p * 5)).off + 2, none⟩ = some (.slice A2 x.f2.length c2) ∧ w'.cell? ⟨(ad.add (p * 5)).block, (ad.add (p * 5)).off + 3, none⟩ = some (.slice A3 x.f3.length c3) ∧ w'.cell? ⟨(ad.add (p * 5)).block, (ad.add (p * 5)).off + 4, none⟩ = some (.slice A4 x.f4.length c4) ∧
  w'.cell? ⟨(ad1.add (a * 5)).block, (ad1.add (a * 5)).off + 1, none⟩ = some (.int .i64 N) ∧ Hid (Rst w g P w')
theorem Cells.below {ad : Addr} {p : Nat} {x : S28} {A2 A3 A4 : Option Addr} {c2 c3 c4 : Nat} {ad1 : Addr} {a : Nat} {N : Int} {w : World} {g : Nat} {P : List Int} {w' w2 : World} (h : Cells ad p x A2 A3 A4 c2 c3 c4 ad1 a N w g P w') (hb : Below w'.heap.size w' w2) : Cells ad p x A2 A3 A4 c2 c3 c4 ad1 a N w g P w2 := by
  obtain ⟨h0, h1, h2, h3, h4, h5, h6⟩ := h
  exact ⟨pw_cell_below hb h0, pw_cell_below hb h1, pw_cell_below hb h2, pw_cell_below hb h3, pw_cell_below hb h4, pw_cell_below hb h5, Go.Lib.hid ⟨h6.out.1.below hb, h6.out.2.trans (hb.mono h6.out.2.size)⟩⟩

theorem Cells.drewN {ad : Addr} {p : Nat} {x : S28} {A2 A3 A4 : Option Addr} {c2 c3 c4 : Nat} {ad1 : Addr} {a : Nat} {N : Int} {w : World} {g : Nat} {P : List Int} {w' : World} (h : Cells ad p x A2 A3 A4 c2 c3 c4 ad1 a N w g P w') (n : Nat) : Cells ad p x A2 A3 A4 c2 c3 c4 ad1 a N w g P (w'.drewN n) := h.below (below_dn (Below.refl _ _) n)
theorem Cells.drew {ad : Addr} {p : Nat} {x : S28} {A2 A3 A4 : Option Addr} {c2 c3 c4 : Nat} {ad1 : Addr} {a : Nat} {N : Int} {w : World} {g : Nat} {P : List Int} {w' : World} (h : Cells ad p x A2 A3 A4 c2 c3 c4 ad1 a N w g P w') : Cells ad p x A2 A3 A4 c2 c3 c4 ad1 a N w g P w'.drew := h.below (below_drew (Below.refl _ _))
theorem scope_arm {ad : Addr} {p : Nat} {x : S28} {A2 A3 A4 : Option Addr} {c2 c3 c4 : Nat} {ad1 : Addr} {a : Nat} {N : Int} {w : World} {g : Nat} {P : List Int} {j : Nat} {w' : World} (G2 : Hid (Kd.C (Kd.int .i64) w A2 x.f2.length x.f2)) (L2 : Hid (x.f2.length ≤ c2)) (G4 : Hid (Kd.C k86 w A4 x.f4.length x.f4)) (HK : Hid ((x.f0 = 7 ∨ x.f0 = 13) → 0 < j → j - 1 < x.f4.length)) (HJ : Hid ((j : Int) ≤ 9223372036854775807))
    (h : Cells ad p x A2 A3 A4 c2 c3 c4 ad1 a N w g P w') :
    Calls Tryd.prog 81 #[.agg #[.int .i64 x.f0, .int .i64 x.f1, .slice A2 x.f2.length c2, .slice A3 x.f3.length c3, .slice A4 x.f4.length c4], .int .i64 (j : Int)] w' fun e wn => ∃ A c, e = .returned (.slice A (scopeOf x j).length c) ∧ Kd.C (Kd.int .i64) wn A (scopeOf x j).length (scopeOf x j) ∧ Cells ad p x A2 A3 A4 c2 c3 c4 ad1 a N w g P wn :=
  (scopeR_calls x j HJ.out A2 c2 A3 c3 A4 c4 w' (Kd.C_below G2.out h.2.2.2.2.2.2.out.2) L2.out (Kd.C_below G4.out h.2.2.2.2.2.2.out.2) HK.out).mono fun e wn h2 => by
    obtain ⟨A, c, rfl, _, h3, h4⟩ := h2
    exact ⟨A, c, rfl, h3, h.below h4⟩
theorem in_arm (l : List Int) (A : Option Addr) (c : Nat) (n : Int) (w : World) (hC : Kd.C (Kd.int .i64) w A l.length l) :
    Calls Tryd.prog 51 #[.slice A l.length c, .int .i64 n] w fun e w' => e = .returned (.bool (decide (n ∈ l))) ∧ w' = w := in_calls l A c n w hC

set_option maxHeartbeats 8000000 in
set_option maxRecDepth 100000 in
theorem binder_calls (t : List S28) (P : List Int) (hp : Par t P) (hn : t.length ≤ 4096) (hs : ∀ x ∈ t, (x.f0 = 7 ∨ x.f0 = 13) → x.f3.length = x.f4.length + 1) (a : Nat) (ha : a < t.length)
    (A0 : Option Addr) (c0 g : Nat) (w : World) (hr : Kd.C k28 w A0 t.length t) (hg : g < w.heap.size) (hA : IA w g P) :
    Calls Tryd.prog 50 #[.slice A0 t.length c0, .slice (some ⟨g, 0, none⟩) t.length t.length, .int .i64 (a : Int)] w (BdP t P (rd_T28 t (a : Int)).f1 a w) := by
  have HR := Go.Lib.hid hr
  have HS := Go.Lib.hid hs
  have HP := Go.Lib.hid hp
  have ht9 : (t.length : Int) ≤ 4096 := by omega
  have HGA := Go.Lib.hid hA
  have HGL := Go.Lib.hid hg
  have HAT := Go.Lib.hid ha
  have HB := Go.Lib.hid (Below.refl w.heap.size w)
  have hal : (a : Int) < (t.length : Int) := by omega
  obtain ⟨N, hN⟩ : ∃ N, N = (rd_T28 t (a : Int)).f1 := ⟨_, rfl⟩
  rw [← hN]
  have HN := Go.Lib.hid hN
  clear hr hs hp hn hA hg ha hN
  obtain ⟨ad1, B2, d2, B3, d3, B4, d4, e_, u0, u1, u2, u3, u4, -, -, -, -, -, -⟩ := at_T28 HR.out (a : Int) (by omega) hal
  subst e_
  rw [← HN.out] at u1
  rw [Int.toNat_natCast] at u1
  have ha0 : (0 : Int) ≤ (a : Int) := by omega
  clear u0 u2 u3 u4 HN
  go_enter Tryd.func50, Tryd.ntmps50
  go_wp2_with fail
  go_loopg [7] t.length (fun g_ v7 w' => ∃ (c : Nat), Hid (t.length ≤ c + g_) ∧ v7 = .int .i64 c ∧ Hid (c < t.length) ∧ Hid (∀ r, Bd t P N c r → Bd t P N a r) ∧ Hid (IA w' g P) ∧ Hid (Below w.heap.size w w'))
  case atStart => exact ⟨a, Go.Lib.hid (by have := HAT.out; omega), rfl, HAT, Go.Lib.hid (fun r h => h), HGA, HB⟩
  case round =>
    clear HGA HB
    obtain ⟨c, hgk, rfl, hc, hbd, hA, hb⟩ := hrel
    obtain ⟨wo, hwo⟩ : ∃ wo : World, wo = wr := ⟨_, rfl⟩
    subst hwo
    obtain ⟨ga, hga⟩ : ∃ ga : Nat, ga = gk := ⟨_, rfl⟩
    subst hga
    have hci : (c : Int) < (t.length : Int) := by have := hc.out; omega
    have hci0 : (0 : Int) ≤ (c : Int) := by omega
    by_cases hroot : c = t.length - 1
    · have hv : P[c]? = some (-1) := by rw [hroot]; exact HP.out.root
      have c1 := hA.out.cell c hv
      have HV := Go.Lib.hid (BdP.mk (hbd.out _ (Bd.stop c hv)) hb.out)
      clear hv hroot
      go_wp2_with fail
      go_ret
      exact HV.out
    · obtain ⟨p, hpl, hv, hcp, hmem⟩ := HP.out.up c (by have := hc.out; omega)
      have HPV := Go.Lib.hid hv
      have c1 := hA.out.cell c hv
      have HCP := Go.Lib.hid hcp
      have HPL := Go.Lib.hid hpl
      have hpi : (p : Int) < (t.length : Int) := by omega
      have hpi0 : (0 : Int) ≤ (p : Int) := by omega
      have hpd : decide ((0 : Int) ≤ (p : Int)) = true := decide_eq_true hpi0
      have HSX := HS.out _ (List.getElem_mem hpl)
      rw [← rdT_nat t p hpl] at HSX
      obtain ⟨ad2, A2, c2, A3, c3, A4, c4, e_, p0, p1, p2, p3, p4, l2, g2, l3, g3, l4, g4⟩ := at_T28 HR.out (p : Int) hpi0 hpi
      cases e_
      rw [Int.toNat_natCast] at p0 p1 p2 p3 p4
      have HHIT := Go.Lib.hid (show hitB (rd_T28 t (p : Int)) c N = true → Bd t P N a p from fun h => hbd.out _ (Bd.hit c p hv h))
      have HUP := Go.Lib.hid (show hitB (rd_T28 t (p : Int)) c N = false → ∀ r, Bd t P N p r → Bd t P N a r from fun h r h2 => hbd.out _ (Bd.up c p r hv h h2))
      generalize rd_T28 t (p : Int) = x at p0 p1 p2 p3 p4 l2 g2 l3 g3 l4 g4 HHIT HUP HSX
      have q3 := pw_cell_below hb.out p3
      have G2 := Go.Lib.hid g2
      have G3 := Go.Lib.hid g3
      have G4 := Go.Lib.hid g4
      have L2 := Go.Lib.hid l2
      have hxl : (x.f3.length : Int) ≤ 9223372036854775807 := by have := G3.out.2.1; omega
      clear hv hcp hpl hmem l2 g2 l3 g3 l4 g4 hbd hroot
      go_wp2_with fail
      go_loopg [31] x.f3.length (fun g_ v31 w' => ∃ j : Nat, Hid (j + g_ = x.f3.length) ∧ v31 = .int .i64 j ∧ Hid (((List.range x.f3.length).take j).any (fun k => decide (rd x.f3 (k : Nat) = (c : Int)) && decide (N ∈ scopeOf x k)) = false) ∧ Hid (IA w' g P) ∧ Hid (Below w.heap.size w w'))
      case atStart => exact ⟨0, Go.Lib.hid (by omega), rfl, Go.Lib.hid rfl, hA, hb⟩
      case round =>
        clear hA hb c1 q3
        obtain ⟨j, hj, rfl, hno, hA, hb⟩ := hrel
        obtain ⟨wi, hwi⟩ : ∃ wi : World, wi = wr := ⟨_, rfl⟩
        subst hwi
        by_cases hlt : j < x.f3.length
        · have hlt2 : (j : Int) < (x.f3.length : Int) := by omega
          have hj0 : (0 : Int) ≤ (j : Int) := by omega
          obtain ⟨ad3, e_, q0⟩ := Kd.at_int (Kd.C_below G3.out hb.out) (j : Int) hj0 hlt2
          subst e_
          have HTJ := Go.Lib.hid (show (List.range x.f3.length).take (j + 1) = (List.range x.f3.length).take j ++ [j] by
            rw [List.take_succ_eq_append_getElem (by rw [List.length_range]; exact hlt), List.getElem_range])
          have HLJ := Go.Lib.hid hlt
          have HANY := Go.Lib.hid (show (decide (rd x.f3 (j : Nat) = (c : Int)) && decide (N ∈ scopeOf x j)) = true → hitB x c N = true from fun h => by
            unfold hitB; rw [List.any_eq_true]; exact ⟨j, List.mem_range.2 hlt, h⟩)
          have HNO := Go.Lib.hid (show (decide (rd x.f3 (j : Nat) = (c : Int)) && decide (N ∈ scopeOf x j)) = false → ((List.range x.f3.length).take (j + 1)).any (fun k => decide (rd x.f3 (k : Nat) = (c : Int)) && decide (N ∈ scopeOf x k)) = false from fun h => by
            rw [HTJ.out, List.any_append, hno.out, List.any_cons, h]; rfl)
          rw [Int.toNat_natCast] at q0
          generalize rd x.f3 (j : Nat) = y at q0 HANY HNO
          clear hlt hno HTJ
          by_cases hy : y = (c : Int)
          · subst hy
            have r0 := pw_cell_below hb.out p0
            have r1 := pw_cell_below hb.out p1
            have r2 := pw_cell_below hb.out p2
            have r3 := pw_cell_below hb.out p3
            have r4 := pw_cell_below hb.out p4
            have HCE := Go.Lib.hid (show Cells ad1 p x A2 (some ad3) A4 c2 c3 c4 ad1 a N w g P wi from ⟨r0, r1, r2, r3, r4, pw_cell_below hb.out u1, Go.Lib.hid ⟨hA.out, hb.out⟩⟩)
            have HKK := Go.Lib.hid (show (x.f0 = 7 ∨ x.f0 = 13) → 0 < j → j - 1 < x.f4.length from fun h h0 => by have := HSX h; have := HLJ.out; omega)
            have HJ9 := Go.Lib.hid (show (j : Int) ≤ 9223372036854775807 by have := HLJ.out; omega)
            clear r0 r1 r2 r3 r4 u1 hb hA p0 p1 p2 p3 p4
            go_wp2_with fail
            go_region_held3 (fun w' => w'.cell? (ad1.add (p * 5)) = some (.int .i64 x.f0) ∧ w'.cell? ⟨(ad1.add (p * 5)).block, (ad1.add (p * 5)).off + 1, none⟩ = some (.int .i64 x.f1) ∧ w'.cell? ⟨(ad1.add (p * 5)).block, (ad1.add (p * 5)).off + 2, none⟩ = some (.slice A2 x.f2.length c2) ∧ w'.cell? ⟨(ad1.add (p * 5)).block, (ad1.add (p * 5)).off + 3, none⟩ = some (.slice (some ad3) x.f3.length c3) ∧ w'.cell? ⟨(ad1.add (p * 5)).block, (ad1.add (p * 5)).off + 4, none⟩ = some (.slice A4 x.f4.length c4) ∧ w'.cell? ⟨(ad1.add (a * 5)).block, (ad1.add (a * 5)).off + 1, none⟩ = some (.int .i64 N) ∧ Hid (Rst w g P w')) (first | exact hNew | exact HCE.out.drew | exact HCE.out.drewN _ | exact HCE.out) (first
              | (go_at_call 81; refine (scope_arm G2 L2 G4 HKK HJ9 (show Cells ad1 p x A2 (some ad3) A4 c2 c3 c4 ad1 a N w g P _ from ‹_ ∧ _ ∧ _ ∧ _ ∧ _ ∧ _ ∧ Hid (Rst w g P _)›)).mono ?_; rintro e wn ⟨A5, c5, rfl, g5, hNew⟩)
              | (go_at_call 51; refine (in_arm _ _ _ _ _ (by assumption)).mono ?_; rintro e wn ⟨rfl, rfl⟩; have hNew := (show Cells ad1 p x A2 (some ad3) A4 c2 c3 c4 ad1 a N w g P _ from ‹_ ∧ _ ∧ _ ∧ _ ∧ _ ∧ _ ∧ Hid (Rst w g P _)›)))
            have HRW := Go.Lib.hid hNew.2.2.2.2.2.2.out
            clear hNew g5
            by_cases hin : N ∈ scopeOf x j
            · have hdi : decide (N ∈ scopeOf x j) = true := decide_eq_true hin
              have HV := Go.Lib.hid (BdP.mk (HHIT.out (HANY.out (by rw [hdi]; rfl))) HRW.out.2)
              clear hin
              rw [hdi]
              go_wp2_with fail
              go_ret
              exact HV.out
            · have hdi : decide (N ∈ scopeOf x j) = false := decide_eq_false hin
              have HN1 := Go.Lib.hid (HNO.out (by rw [hdi, Bool.and_false]))
              clear hin
              rw [hdi]
              go_wp2_with fail
              go_roundg (gk - 1)
              case measure => have := hj.out; have := HLJ.out; omega
              case rel => exact ⟨j + 1, Go.Lib.hid (by have := hj.out; have := HLJ.out; omega), by go_num, HN1, Go.Lib.hid HRW.out.1, Go.Lib.hid HRW.out.2⟩
          · have hb1 : (y == (c : Int)) = false := beq_eq_false_iff_ne.2 hy
            have HN1 := Go.Lib.hid (HNO.out (by rw [decide_eq_false hy]; rfl))
            clear hy
            go_wp2_with fail
            go_quiet (fail)
            go_wp2_with fail
            go_roundg (gk - 1)
            case measure => have := hj.out; have := HLJ.out; omega
            case rel => exact ⟨j + 1, Go.Lib.hid (by have := hj.out; have := HLJ.out; omega), by go_num, HN1, Go.Lib.hid (hA.out.drewN _), Go.Lib.hid (below_dn hb.out _)⟩
        · have hd : decide ((j : Int) < (x.f3.length : Int)) = false := decide_eq_false (by omega)
          have hd2 : decide (j < x.f3.length) = false := decide_eq_false hlt
          have HUP2 := Go.Lib.hid (HUP.out (by
            have h := hno.out
            rw [List.take_of_length_le (by rw [List.length_range]; omega)] at h
            exact h))
          have c1 := hA.out.cell c HPV.out
          clear hlt hj hno
          go_wp2_with fail
          go_roundg (ga - 1)
          case measure => have := hgk.out; have := HCP.out; have := HPL.out; omega
          case rel => exact ⟨p, Go.Lib.hid (by have := hgk.out; have := HCP.out; omega), rfl, HPL, HUP2, hA, hb⟩
end Go.Proofs.YtjhinklijopobaaDoor.Co
