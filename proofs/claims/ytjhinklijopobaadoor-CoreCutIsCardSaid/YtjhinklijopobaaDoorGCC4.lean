import Derived.Test.YtjhinklijopobaaDoorGCC3
import Derived.BigQuiet
import Derived.Test.YtjhinklijopobaaDoorPCoreChecksx9
namespace Go.Proofs.YtjhinklijopobaaDoor.Co
open Go.RowKit Go.Proofs.YtjhinklijopobaaDoor.PCoreChecks Go.Proofs.YtjhinklijopobaaDoorW.PrintWords Go.Proofs.YtjhinklijopobaaDoorW.PrintLast Go.Proofs.YtjhinklijopobaaDoorW.PrintMore
set_option linter.unusedVariables false
set_option linter.unusedSimpArgs false

def IxP (l : List S86) (a : S86) (w : World) (e : Ending) (w' : World) : Prop := ∃ r : Int, e = .returned (.int .i64 r) ∧ (decide (0 ≤ r) = l.any fun b => decide (b.f0 = a.f0)) ∧ Below w.heap.size w w'
set_option maxHeartbeats 4000000 in
set_option maxRecDepth 100000 in
theorem index_calls (l : List S86) (a : S86) (L A : Option Addr) (c ca g : Nat) (w : World) (hr : Kd.C k86 w L l.length l) (h : Bxa w g a A ca) :
    Calls Tryd.prog 141 #[.slice L l.length c, .func (.func 136) #[] #[.pointer (some ⟨g, 0, none⟩)]] w (IxP l a w) := by
  have HR := Go.Lib.hid hr
  have HX := Go.Lib.hid h
  have hl9 : (l.length : Int) ≤ 9223372036854775807 := by have := hr.2.1; omega
  clear hr h
  go_enter Tryd.func141, Tryd.ntmps141
  go_wp2_with fail
  go_loopg [8] l.length (fun g_ v8 w' => ∃ i : Nat, Hid (i + g_ = l.length) ∧ v8 = .int .i64 i ∧ Hid ((l.take i).any (fun b => decide (b.f0 = a.f0)) = false) ∧ Hid (Below w.heap.size w w'))
  case atStart => exact ⟨0, Go.Lib.hid (by omega), rfl, Go.Lib.hid rfl, Go.Lib.hid (Below.refl _ _)⟩
  case round =>
    obtain ⟨i, hi, rfl, hn, hb⟩ := hrel
    obtain ⟨wo, hwo⟩ : ∃ wo : World, wo = wr := ⟨_, rfl⟩
    subst hwo
    by_cases hlt : i < l.length
    · have hlt' : (i : Int) < (l.length : Int) := by omega
      have hi0 : (0 : Int) ≤ (i : Int) := by omega
      have HI := Go.Lib.hid hlt
      obtain ⟨ad, A1, c1, e_, p0, p1, q1, q2⟩ := at_T86 HR.out (i : Int) hi0 hlt'
      cases e_
      rw [rdA_nat l i hlt] at p0 p1 q1 q2
      rw [Int.toNat_natCast] at p0 p1
      replace p0 := pw_cell_below hb.out p0
      replace p1 := pw_cell_below hb.out p1
      have HTK := Go.Lib.hid (List.take_succ_eq_append_getElem hlt)
      have HM := Go.Lib.hid (List.getElem_mem hlt)
      generalize l[i]'hlt = b at p0 p1 q1 q2 HTK HM
      have HCA := Go.Lib.hid (same_tag b a A1 A c1 ca g wo (HX.out.below hb.out))
      clear hlt q1 q2
      go_wp2_with fail
      refine HCA.out.mono ?_
      rintro e w3 ⟨rfl, hb3⟩
      have HB3 := Go.Lib.hid (hb.out.trans (hb3.mono hb.out.size))
      clear hb3 hb HCA p0 p1
      by_cases ht : b.f0 = a.f0
      · have hd : decide (b.f0 = a.f0) = true := decide_eq_true ht
        have HV := Go.Lib.hid (show IxP l a w (.returned (.int .i64 (i : Int))) w3 from ⟨i, rfl, by rw [decide_eq_true (by omega)]; symm; rw [List.any_eq_true]; exact ⟨b, HM.out, hd⟩, HB3.out⟩)
        clear ht
        rw [hd]
        go_wp2_with fail
        go_ret
        exact HV.out
      · have hd : decide (b.f0 = a.f0) = false := decide_eq_false ht
        have HN1 := Go.Lib.hid (show (l.take (i + 1)).any (fun b => decide (b.f0 = a.f0)) = false by rw [HTK.out, List.any_append, hn.out, List.any_cons, hd]; rfl)
        clear ht
        rw [hd]
        go_wp2_with fail
        go_roundg (gk - 1)
        case measure => have := hi.out; have := HI.out; omega
        case rel => exact ⟨i + 1, Go.Lib.hid (by have := hi.out; have := HI.out; omega), by go_num, HN1, HB3⟩
    · have hd : decide ((i : Int) < (l.length : Int)) = false := decide_eq_false (by omega)
      have hd2 : decide (i < l.length) = false := decide_eq_false hlt
      have HV := Go.Lib.hid (show IxP l a w (.returned (.int .i64 (-1))) wo from ⟨-1, rfl, by have h := hn.out; rw [List.take_of_length_le (by omega)] at h; rw [h]; rfl, hb.out⟩)
      clear hlt hn hi
      go_wp2_with fail
      go_ret
      exact HV.out
end Go.Proofs.YtjhinklijopobaaDoor.Co
namespace Go.Proofs.YtjhinklijopobaaDoor.Co
open Go.RowKit Go.Proofs.YtjhinklijopobaaDoor.PCoreChecks Go.Proofs.YtjhinklijopobaaDoorW.PrintWords Go.Proofs.YtjhinklijopobaaDoorW.PrintLast Go.Proofs.YtjhinklijopobaaDoorW.PrintMore
set_option linter.unusedVariables false
set_option linter.unusedSimpArgs false
set_option maxHeartbeats 4000000 in
set_option maxRecDepth 100000 in
theorem contains_calls (l : List S86) (a : S86) (L A : Option Addr) (c ca g : Nat) (w : World) (hr : Kd.C k86 w L l.length l) (h : Bxa w g a A ca) :
    Calls Tryd.prog 135 #[.slice L l.length c, .func (.func 136) #[] #[.pointer (some ⟨g, 0, none⟩)]] w fun e w' => e = .returned (.bool (l.any fun b => decide (b.f0 = a.f0))) ∧ Below w.heap.size w w' := by
  have HC := Go.Lib.hid (index_calls l a L A c ca g w hr h)
  clear hr h
  go_enter Tryd.func135, Tryd.ntmps135
  go_wp2_with fail
  refine HC.out.mono ?_
  rintro e w' ⟨r, rfl, hrr, hb⟩
  have HB := Go.Lib.hid hb
  have HRR := Go.Lib.hid hrr
  clear hb hrr HC
  go_wp2_with fail
  go_ret
  exact ⟨by rw [← HRR.out]; rfl, HB.out⟩
end Go.Proofs.YtjhinklijopobaaDoor.Co
namespace Go.Proofs.YtjhinklijopobaaDoor.Co
open Go.RowKit Go.Proofs.YtjhinklijopobaaDoor.PCoreChecks Go.Proofs.YtjhinklijopobaaDoorW.PrintWords Go.Proofs.YtjhinklijopobaaDoorW.PrintLast Go.Proofs.YtjhinklijopobaaDoorW.PrintMore
set_option linter.unusedVariables false
set_option linter.unusedSimpArgs false
/-- Alternative i is right, as the program asks. -/
def altOkC (op : Int) (al : List S86) (i : Nat) : Bool :=
  if (al.take i).any (fun b => decide (b.f0 = (rd_T86 al i).f0)) = true then false else if (rd_T86 al i).f0 < -1 then false
  else if op = 7 ∧ (rd_T86 al i).f0 = -1 ∧ (i + 1 < al.length ∨ 0 < (rd_T86 al i).f1.length) then false
  else if op = 13 ∧ ¬ (i = 0 ↔ (rd_T86 al i).f0 = -1) then false
  else if op = 13 ∧ (rd_T86 al i).f1.length ≠ min (i + 1) 2 then false else true
theorem altOk_same (op : Int) (al : List S86) (i : Nat) : altOkC op al i = altOk op al i := by
  unfold altOkC altOk
  generalize (al.take i).any (fun b => decide (b.f0 = (rd_T86 al i).f0)) = an
  generalize (rd_T86 al i) = a
  obtain ⟨tg, cs⟩ := a
  simp only
  generalize cs.length = n
  repeat' split
  all_goals first | rfl | (exfalso; simp_all; omega) | (exfalso; omega)
end Go.Proofs.YtjhinklijopobaaDoor.Co
namespace Go.Proofs.YtjhinklijopobaaDoor.Co
open Go.RowKit Go.Proofs.YtjhinklijopobaaDoor.PCoreChecks Go.Proofs.YtjhinklijopobaaDoorW.PrintWords Go.Proofs.YtjhinklijopobaaDoorW.PrintLast Go.Proofs.YtjhinklijopobaaDoorW.PrintMore
set_option linter.unusedVariables false
set_option linter.unusedSimpArgs false

/-! ### Free identifiers: from above and from below -/
/-- An identifier occurs freely in the tree of node i. -/
inductive Fv (t : List S28) : Nat → Int → Prop
  | var (i : Nat) (h : i < t.length) : (t[i]'h).f0 = 0 → Fv t i (t[i]'h).f1
  | kid (i : Nat) (h : i < t.length) (k : Nat) (hk : k < (t[i]'h).f3.length) (c : Nat) (n : Int) : (t[i]'h).f3[k]'hk = (c : Int) → n ∉ scopeOf (t[i]'h) k → Fv t c n → Fv t i n

theorem two_count : ∀ (l : List Int) (a b : Nat) (ha : a < l.length) (hb : b < l.length), a < b → l[a]'ha = l[b]'hb → 2 ≤ l.count (l[a]'ha) := by
  intro l
  induction l with
  | nil => intro a b ha; simp at ha
  | cons x l ih =>
    intro a b ha hb hab he
    cases b with
    | zero => omega
    | succ b =>
      cases a with
      | zero =>
        have h1 : x = l[b]'(by simpa using hb) := by simpa using he
        have h2 : x ∈ l := by rw [h1]; exact List.getElem_mem _
        have h3 := List.count_pos_iff.2 h2
        simp only [List.getElem_cons_zero, List.count_cons_self]
        omega
      | succ a =>
        have h1 := ih a b (by simpa using ha) (by simpa using hb) (by omega) (by simpa using he)
        have h2 := List.Sublist.count_le (l[a]'(by simpa using ha)) (List.sublist_cons_self x l)
        simp only [List.getElem_cons_succ]
        omega
theorem kid_once {t : List S28} (h : treeB t = true) {i : Nat} (hi : i < t.length) {a b : Nat} (ha : a < (t[i]'hi).f3.length) (hb : b < (t[i]'hi).f3.length) (he : (t[i]'hi).f3[a]'ha = (t[i]'hi).f3[b]'hb) : a = b := by
  obtain ⟨h0, hr, hone⟩ := treeB_parts h
  have key : ∀ a b (ha : a < (t[i]'hi).f3.length) (hb : b < (t[i]'hi).f3.length), (t[i]'hi).f3[a]'ha = (t[i]'hi).f3[b]'hb → ¬ a < b := by
    intro a b ha hb he hlt
    have h2 := two_count _ a b ha hb hlt he
    have hm := badK_mem (rB_at hr i hi) (List.getElem_mem ha)
    obtain ⟨c, hc⟩ : ∃ c : Nat, (t[i]'hi).f3[a]'ha = (c : Int) := ⟨((t[i]'hi).f3[a]'ha).toNat, by omega⟩
    rw [hc] at h2 hm
    have h1 := hone c (by omega)
    have e : kidsT t = (t.take i).flatMap S28.f3 ++ ((t[i]'hi).f3 ++ (t.drop (i + 1)).flatMap S28.f3) := by
      unfold kidsT
      conv => lhs; rw [← List.take_append_drop i t, List.drop_eq_getElem_cons hi]
      rw [List.flatMap_append, List.flatMap_cons]
    rw [e, List.count_append, List.count_append] at h1
    omega
  have h1 := key a b ha hb he
  have h2 := key b a hb ha he.symm
  omega
/-- A kid's parent. -/
theorem Par.of_kid {t : List S28} {P : List Int} (hP : Par t P) {i : Nat} (hi : i < t.length) {k : Nat} (hk : k < (t[i]'hi).f3.length) {c : Nat} (hc : (t[i]'hi).f3[k]'hk = (c : Int)) : P[c]? = some (i : Int) ∧ c < i := by
  obtain ⟨h0, hr, hone⟩ := treeB_parts hP.tree
  have hm := badK_mem (rB_at hr i hi) (List.getElem_mem hk)
  rw [hc] at hm
  obtain ⟨j, hj, e, hcj, hmem⟩ := hP.up c (by omega)
  have : i = j := one_parent hP.tree (k := c) hi hj (by rw [← hc]; exact List.getElem_mem hk) hmem
  subst this
  exact ⟨e, by omega⟩
theorem hit_false {t : List S28} {P : List Int} (hP : Par t P) {i : Nat} (hi : i < t.length) {k : Nat} (hk : k < (t[i]'hi).f3.length) {c : Nat} (hc : (t[i]'hi).f3[k]'hk = (c : Int)) {n : Int} (hn : n ∉ scopeOf (t[i]'hi) k) : hitB (t[i]'hi) c n = false := by
  unfold hitB
  rw [List.any_eq_false]
  intro k2 hk2
  have hk2' := List.mem_range.1 hk2
  rw [rd_nat _ k2 hk2']
  by_cases e : (t[i]'hi).f3[k2]'hk2' = (c : Int)
  · have : k2 = k := kid_once hP.tree hi hk2' hk (by rw [e, hc])
    subst this
    rw [decide_eq_false hn]; simp
  · rw [decide_eq_false e]; simp
theorem hit_true {x : S28} {c n : Int} (h : hitB x c n = false) {k : Nat} (hk : k < x.f3.length) (hc : x.f3[k]'hk = c) : n ∉ scopeOf x k := by
  unfold hitB at h
  have h2 := List.any_eq_false.1 h k (List.mem_range.2 hk)
  rw [rd_nat _ k hk, hc, decide_eq_true rfl, Bool.true_and] at h2
  simpa using h2
theorem Fv.bd {t : List S28} {P : List Int} (hP : Par t P) {i : Nat} {n : Int} (h : Fv t i n) : ∃ (j : Nat) (hj : j < t.length), (t[j]'hj).f0 = 0 ∧ (t[j]'hj).f1 = n ∧ ∀ r, Bd t P n i r → Bd t P n j r := by
  induction h with
  | var i h h0 => exact ⟨i, h, h0, rfl, fun r hr => hr⟩
  | kid i h k hk c n hc hn _ ih =>
    obtain ⟨j, hj, h0, h1, hb⟩ := ih
    refine ⟨j, hj, h0, h1, fun r hr => hb r ?_⟩
    refine Bd.up c i r (hP.of_kid h hk hc).1 ?_ hr
    rw [rdT_nat t i h]
    exact hit_false hP h hk hc hn
theorem Fv.of_bd {t : List S28} {P : List Int} (hP : Par t P) {c : Nat} {n r : Int} (h : Bd t P n c r) : r = -1 → Fv t c n → Fv t (t.length - 1) n := by
  induction h with
  | stop c hc =>
    intro _ hf
    by_cases e : c < t.length - 1
    · obtain ⟨j, hj, e2, _, _⟩ := hP.up c e
      rw [hc] at e2
      have := Option.some.inj e2
      omega
    · have : c < P.length := (List.getElem?_eq_some_iff.1 hc).1
      rw [hP.len] at this
      have : c = t.length - 1 := by omega
      rw [← this]; exact hf
  | hit c p hc hh => intro e; omega
  | up c p r hc hh _ ih =>
    intro e hf
    refine ih e ?_
    have hcl : c < P.length := (List.getElem?_eq_some_iff.1 hc).1
    have hlen := hP.len
    by_cases e2 : c < t.length - 1
    · obtain ⟨j, hj, e3, _, hmem⟩ := hP.up c e2
      rw [hc] at e3
      have : p = j := by have := Option.some.inj e3; omega
      subst this
      obtain ⟨k, hk, hk2⟩ := List.mem_iff_getElem.1 hmem
      rw [rdT_nat t p hj] at hh
      exact Fv.kid p hj k hk c n hk2 (hit_true hh hk hk2) hf
    · have hr := hP.root
      have : c = t.length - 1 := by omega
      rw [this, hr] at hc
      have := Option.some.inj hc
      omega
/-- The names that nothing binds are those that are free in the whole tree. -/
theorem badName_iff {t : List S28} {P : List Int} (hP : Par t P) (params : List Int) : badName t params ↔ ∃ n, Fv t (t.length - 1) n ∧ n ∉ params := by
  constructor
  · rintro ⟨Q, i, hQ, hi, h0, hb, hn⟩
    rw [hQ.one hP] at hb
    rw [rdT_nat t i hi] at h0 hb hn
    exact ⟨_, Fv.of_bd hP hb rfl (Fv.var i hi h0), hn⟩
  · rintro ⟨n, hf, hn⟩
    obtain ⟨j, hj, h0, h1, hb⟩ := hf.bd hP
    refine ⟨P, j, hP, hj, ?_, ?_, ?_⟩
    · rw [rdT_nat t j hj]; exact h0
    · rw [rdT_nat t j hj, h1]; exact hb _ (Bd.stop _ hP.root)
    · rw [rdT_nat t j hj, h1]; exact hn
end Go.Proofs.YtjhinklijopobaaDoor.Co
namespace Go.Proofs.YtjhinklijopobaaDoor.Co
open Go.RowKit Go.Proofs.YtjhinklijopobaaDoor.PCoreChecks Go.Proofs.YtjhinklijopobaaDoorW.PrintWords Go.Proofs.YtjhinklijopobaaDoorW.PrintLast Go.Proofs.YtjhinklijopobaaDoorW.PrintMore
set_option linter.unusedVariables false
set_option linter.unusedSimpArgs false

/-- The program's test of the alternatives of a case or a handler. -/
def altsP (x : S28) : Bool := (List.range x.f4.length).all (altOk x.f0 x.f4) && (decide (x.f3.length = 1 + x.f4.length) && (decide (x.f0 = 7) || decide (0 < x.f4.length)))
theorem altsP_bad {x : S28} {i : Nat} (hi : i < x.f4.length) (h : altOkC x.f0 x.f4 i = false) : altsP x = false := by
  unfold altsP
  have : (List.range x.f4.length).all (altOk x.f0 x.f4) = false := by
    rw [List.all_eq_false]
    exact ⟨i, List.mem_range.2 hi, by rw [← altOk_same, h]; decide⟩
  rw [this]; rfl
theorem altsP_all {x : S28} (h : ∀ j, j < x.f4.length → altOkC x.f0 x.f4 j = true) : altsP x = (decide (x.f3.length = 1 + x.f4.length) && (decide (x.f0 = 7) || decide (0 < x.f4.length))) := by
  unfold altsP
  have : (List.range x.f4.length).all (altOk x.f0 x.f4) = true := by
    rw [List.all_eq_true]
    intro j hj
    rw [← altOk_same]
    exact h j (List.mem_range.1 hj)
  rw [this]; rfl
theorem both_ways {b : Bool} (h : b = true) (h2 : b = false) : False := by rw [h] at h2; cases h2
theorem tag_ne (i : Nat) (a : Int) : (!((i : Int) == 0) == (a == -1)) = true ↔ ¬ (i = 0 ↔ a = -1) := by
  have e1 : ((i : Int) == 0) = decide (i = 0) := by rw [Bool.eq_iff_iff]; simp
  have e2 : (a == -1) = decide (a = -1) := by rw [Bool.eq_iff_iff]; simp
  rw [e1, e2]
  by_cases h : i = 0 <;> by_cases h2 : a = -1 <;> simp [h, h2]
theorem tag_eq (i : Nat) (a : Int) : (!((i : Int) == 0) == (a == -1)) = false ↔ (i = 0 ↔ a = -1) := by
  have e1 : ((i : Int) == 0) = decide (i = 0) := by rw [Bool.eq_iff_iff]; simp
  have e2 : (a == -1) = decide (a = -1) := by rw [Bool.eq_iff_iff]; simp
  rw [e1, e2]
  by_cases h : i = 0 <;> by_cases h2 : a = -1 <;> simp [h, h2]
theorem len_ne (i n : Nat) : (((n : Nat) : Int) != if (2 : Int) < (i : Int) + 1 then 2 else (i : Int) + 1) = true ↔ n ≠ min (i + 1) 2 := by
  rw [bne_iff_ne]
  split <;> omega
theorem len_eq (i n : Nat) : (((n : Nat) : Int) != if (2 : Int) < (i : Int) + 1 then 2 else (i : Int) + 1) = false ↔ n = min (i + 1) 2 := by
  rw [bne_eq_false_iff_eq]
  split <;> omega
def AltP (x : S28) (w : World) (e : Ending) (w' : World) : Prop := e = .returned (.bool (altsP x)) ∧ Below w.heap.size w w'
theorem AltP.mk {x : S28} {w w' : World} {b : Bool} (h : altsP x = b) (hb : Below w.heap.size w w') : AltP x w (.returned (.bool b)) w' := ⟨by rw [h], hb⟩
/-- What stays through the loop. -/
structure Kx (w : World) (x : S28) (A2 : Option Addr) (c2 : Nat) (A3 : Option Addr) (c3 : Nat) (A4 : Option Addr) (c4 : Nat) (w' : World) : Prop where
  bx : Bx w' w.heap.size x A2 c2 A3 c3 A4 c4
  b : Below w.heap.size w w'
theorem Kx.below {w : World} {x : S28} {A2 : Option Addr} {c2 : Nat} {A3 : Option Addr} {c3 : Nat} {A4 : Option Addr} {c4 : Nat} {W W' : World} (h : Kx w x A2 c2 A3 c3 A4 c4 W) (hb : Below W.heap.size W W') : Kx w x A2 c2 A3 c3 A4 c4 W' := ⟨h.bx.below hb, h.b.trans (hb.mono h.b.size)⟩
theorem Kx.made (w : World) (x : S28) (A2 A3 A4 : Option Addr) (c2 c3 c4 : Nat) : Kx w x A2 c2 A3 c3 A4 c4 (w.alloc (.cells #[.int .i64 x.f0, .int .i64 x.f1, .slice A2 x.f2.length c2, .slice A3 x.f3.length c3, .slice A4 x.f4.length c4] 28)) :=
  ⟨Bx.made w x A2 A3 A4 c2 c3 c4, below_alloc (Below.refl _ _) _⟩
theorem Bxa.made (W : World) (a : S86) (A : Option Addr) (c : Nat) : Bxa (W.alloc (.cells #[.int .i64 a.f0, .slice A a.f1.length c] 86)) W.heap.size a A c := by
  unfold Bxa
  rw [blk_new]

set_option maxHeartbeats 8000000 in
set_option maxRecDepth 100000 in
theorem alts_calls (x : S28) (hs : Small x) (h7 : x.f0 = 7 ∨ x.f0 = 13) (A2 A3 A4 : Option Addr) (c2 c3 c4 : Nat) (w : World) (h : Node w x A2 c2 A3 c3 A4 c4) :
    Calls Tryd.prog 119 #[nodeV x A2 c2 A3 c3 A4 c4] w (AltP x w) := by
  have HN := Go.Lib.hid h
  have HK0 := Go.Lib.hid (Kx.made w x A2 A3 A4 c2 c3 c4)
  have hl9 : (x.f4.length : Int) ≤ 17592186044416 := by have := hs.a; omega
  have hk9 : (x.f3.length : Int) ≤ 17592186044416 := by have := hs.k; omega
  have H7 := Go.Lib.hid h7
  have hc4 : x.f4.length ≤ c4 := h.l4
  clear h h7
  go_enter Tryd.func119, Tryd.ntmps119
  go_wp2_with fail
  go_loopg [9] x.f4.length (fun g_ v9 w' => ∃ i : Nat, Hid (i + g_ = x.f4.length) ∧ v9 = .int .i64 i ∧ Hid (∀ j, j < i → altOkC x.f0 x.f4 j = true) ∧ Hid (Kx w x A2 c2 A3 c3 A4 c4 w'))
  case atStart => exact ⟨0, Go.Lib.hid (by omega), rfl, Go.Lib.hid (by omega), HK0⟩
  case round =>
    clear HK0
    obtain ⟨i, hi, rfl, ha, hk⟩ := hrel
    obtain ⟨wo, hwo⟩ : ∃ wo : World, wo = wr := ⟨_, rfl⟩
    subst hwo
    by_cases hlt : i < x.f4.length
    · have hlt' : (i : Int) < (x.f4.length : Int) := by omega
      have hi0 : (0 : Int) ≤ (i : Int) := by omega
      have hic : (i : Int) ≤ (c4 : Int) := by omega
      have HI := Go.Lib.hid hlt
      obtain ⟨ad, A1, c1, e_, p0, p1, q1, q2⟩ := at_T86 HN.out.g4 (i : Int) hi0 hlt'
      cases e_
      rw [Int.toNat_natCast] at p0 p1
      replace p0 := pw_cell_below hk.out.b p0
      replace p1 := pw_cell_below hk.out.b p1
      have HBAD := Go.Lib.hid (fun h => altsP_bad (x := x) hlt h)
      have HAD := Go.Lib.hid (show altOkC x.f0 x.f4 i = (if (x.f4.take i).any (fun b => decide (b.f0 = (rd_T86 x.f4 i).f0)) = true then false else if (rd_T86 x.f4 i).f0 < -1 then false
  else if x.f0 = 7 ∧ (rd_T86 x.f4 i).f0 = -1 ∧ (i + 1 < x.f4.length ∨ 0 < (rd_T86 x.f4 i).f1.length) then false
  else if x.f0 = 13 ∧ ¬ (i = 0 ↔ (rd_T86 x.f4 i).f0 = -1) then false
  else if x.f0 = 13 ∧ (rd_T86 x.f4 i).f1.length ≠ min (i + 1) 2 then false else true) from rfl)
      generalize rd_T86 x.f4 (i : Int) = a at p0 p1 q1 q2 HAD
      have HKX := Go.Lib.hid (hk.out.below (below_alloc (Below.refl _ _) (.cells #[.int .i64 a.f0, .slice A1 a.f1.length c1] 86)))
      have HXA := Go.Lib.hid (Bxa.made wo a A1 c1)
      obtain ⟨x0, x1, x2, x3, x4⟩ := HKX.out.bx.cells
      have htl : (x.f4.take i).length = i := by rw [List.length_take]; omega
      have HCT := Go.Lib.hid (Kd.C_take (Kd.C_below HN.out.g4 HKX.out.b) (show i ≤ x.f4.length by omega))
      rw [htl] at HCT
      have HCA := Go.Lib.hid (contains_calls (x.f4.take i) a (some ad) A1 c4 c1 wo.heap.size _ (by rw [htl]; exact HCT.out) HXA.out)
      rw [htl] at HCA
      clear q1 q2 htl hlt hk
      go_wp2_with fail
      refine HCA.out.mono ?_
      rintro e w3 ⟨rfl, hb3⟩
      have HK3 := Go.Lib.hid (HKX.out.below hb3)
      have HA3 := Go.Lib.hid (HXA.out.below hb3)
      clear x0 x1 x2 x3 x4 p0 p1
      obtain ⟨x0, x1, x2, x3, x4⟩ := HK3.out.bx.cells
      obtain ⟨p0, p1⟩ := HA3.out.cells
      clear hb3 HCA HCT HKX HXA
      cases han : (x.f4.take i).any (fun b => decide (b.f0 = a.f0)) with
      | true =>
        have HV := Go.Lib.hid (AltP.mk (w := w) (HBAD.out (by rw [HAD.out, han]; rfl)) HK3.out.b)
        clear han
        go_wp2_with fail
        go_ret
        exact HV.out
      | false =>
        rw [han, if_neg (by decide)] at HAD
        clear han
        by_cases hm : a.f0 < -1
        · have hd : decide (a.f0 < -1) = true := decide_eq_true hm
          have HV := Go.Lib.hid (AltP.mk (w := w) (HBAD.out (by rw [HAD.out, if_pos hm])) HK3.out.b)
          clear hm
          go_wp2_with fail
          go_ret
          exact HV.out
        · have hd : decide (a.f0 < -1) = false := decide_eq_false hm
          rw [if_neg hm] at HAD
          clear hm
          rcases H7.out with h7 | h13
          · have e7 : (x.f0 == 7) = true := beq_iff_eq.2 h7
            have e13 : (x.f0 == 13) = false := beq_eq_false_iff_ne.2 (by omega)
            rw [if_neg (c := x.f0 = 13 ∧ _) (by omega), if_neg (c := x.f0 = 13 ∧ _) (by omega)] at HAD
            have H77 := Go.Lib.hid h7
            clear h7
            go_wp2_with fail
            all_goals first
              | (go_ret; exact AltP.mk (HBAD.out (by have := H77.out; rw [HAD.out, if_pos (by omega)])) HK3.out.b)
              | (go_roundg (gk - 1)
                 case measure => have := hi.out; have := HI.out; omega
                 case rel => exact ⟨i + 1, Go.Lib.hid (by have := hi.out; have := HI.out; omega), by go_num, Go.Lib.hid (fun j hj => by
                  by_cases e : j = i
                  · subst e; have := H77.out; rw [HAD.out, if_neg (by omega)]
                  · exact ha.out j (by omega)), HK3⟩)
          · have e7 : (x.f0 == 7) = false := beq_eq_false_iff_ne.2 (by omega)
            have e13 : (x.f0 == 13) = true := beq_iff_eq.2 h13
            rw [if_neg (c := x.f0 = 7 ∧ _) (by omega)] at HAD
            have H77 := Go.Lib.hid h13
            clear h13
            go_wp2_with fail
            all_goals first
              | (exfalso; exact both_ways ‹(!((i : Int) == 0) == (a.f0 == -1)) = true› ‹(!((i : Int) == 0) == (a.f0 == -1)) = false›)
              | (go_ret; exact AltP.mk (HBAD.out (by rw [HAD.out, if_pos ⟨H77.out, (tag_ne i a.f0).1 ‹_›⟩])) HK3.out.b)
              | (go_ret; exact AltP.mk (HBAD.out (by rw [HAD.out, if_neg (fun h => h.2 ((tag_eq i a.f0).1 ‹_›)), if_pos ⟨H77.out, (len_ne i a.f1.length).1 ‹_›⟩])) HK3.out.b)
              | (go_roundg (gk - 1)
                 case measure => have := hi.out; have := HI.out; omega
                 case rel => exact ⟨i + 1, Go.Lib.hid (by have := hi.out; have := HI.out; omega), by go_num, Go.Lib.hid (fun j hj => by
                  by_cases e : j = i
                  · subst e; rw [HAD.out, if_neg (fun h => h.2 ((tag_eq j a.f0).1 ‹_›)), if_neg (fun h => h.2 ((len_eq j a.f1.length).1 ‹_›))]
                  · exact ha.out j (by omega)), HK3⟩)
    · have hd : decide ((i : Int) < (x.f4.length : Int)) = false := decide_eq_false (by omega)
      have hd2 : decide (i < x.f4.length) = false := decide_eq_false hlt
      obtain ⟨x0, x1, x2, x3, x4⟩ := hk.out.bx.cells
      have HALL := Go.Lib.hid (altsP_all (x := x) (fun j hj => ha.out j (by omega)))
      clear ha hlt hi
      by_cases hn : x.f3.length = 1 + x.f4.length
      · have e1 : ((x.f3.length : Int) == 1 + (x.f4.length : Int)) = true := beq_iff_eq.2 (by omega)
        rw [decide_eq_true hn, Bool.true_and] at HALL
        clear hn
        rcases H7.out with h7 | h13
        · have e7 : (x.f0 == 7) = true := beq_iff_eq.2 h7
          rw [decide_eq_true h7, Bool.true_or] at HALL
          clear h7
          have HV := Go.Lib.hid (AltP.mk (w := w) HALL.out hk.out.b)
          go_wp2_with fail
          go_ret
          exact HV.out
        · have e7 : (x.f0 == 7) = false := beq_eq_false_iff_ne.2 (by omega)
          rw [decide_eq_false (p := x.f0 = 7) (by omega), Bool.false_or] at HALL
          clear h13
          by_cases h0 : 0 < x.f4.length
          · have d0 : decide (0 < x.f4.length) = true := decide_eq_true h0
            rw [d0] at HALL
            clear h0
            have HV := Go.Lib.hid (AltP.mk (w := w) HALL.out hk.out.b)
            go_wp2_with fail
            go_ret
            exact HV.out
          · have d0 : decide (0 < x.f4.length) = false := decide_eq_false h0
            rw [d0] at HALL
            clear h0
            have HV := Go.Lib.hid (AltP.mk (w := w) HALL.out hk.out.b)
            go_wp2_with fail
            go_ret
            exact HV.out
      · have e1 : ((x.f3.length : Int) == 1 + (x.f4.length : Int)) = false := beq_eq_false_iff_ne.2 (by omega)
        rw [decide_eq_false hn, Bool.false_and] at HALL
        clear hn
        have HV := Go.Lib.hid (AltP.mk (w := w) HALL.out hk.out.b)
        go_wp2_with fail
        go_ret
        exact HV.out
end Go.Proofs.YtjhinklijopobaaDoor.Co
namespace Go.Proofs.YtjhinklijopobaaDoor.Co
open Go.RowKit Go.Proofs.YtjhinklijopobaaDoor.PCoreChecks Go.Proofs.YtjhinklijopobaaDoorW.PrintWords Go.Proofs.YtjhinklijopobaaDoorW.PrintLast Go.Proofs.YtjhinklijopobaaDoorW.PrintMore
set_option linter.unusedVariables false
set_option linter.unusedSimpArgs false

def arN (n : Int) : Int := if n = 7 ∨ n = 9 then 1 else if n = 11 then 3 else 2
/-- The table of the primitives. -/
def Tab (w : World) : Prop := 0 < w.heap.size ∧ ∀ n : Int, 0 ≤ n → n ≤ 11 → w.cell? ⟨0, n.toNat, none⟩ = some (.int .i64 (arN n))
theorem Tab.below {w w' : World} (h : Tab w) (hb : Below w.heap.size w w') : Tab w' := ⟨Nat.lt_of_lt_of_le h.1 hb.size, fun n h0 h1 => pw_cell_below hb (h.2 n h0 h1)⟩
def ShP (x : S28) (w : World) (e : Ending) (w' : World) : Prop := e = .returned (.bool (shapeB x)) ∧ Below w.heap.size w w'
theorem ShP.mk {x : S28} {w w' : World} {b : Bool} (h : shapeB x = b) (hb : Below w.heap.size w w') : ShP x w (.returned (.bool b)) w' := ⟨by rw [h], hb⟩

set_option maxHeartbeats 8000000 in
set_option maxRecDepth 100000 in
theorem shape_0 (n : Int) (bs ks : List Int) (al : List S86) (hs : Small ⟨0, n, bs, ks, al⟩) (A2 A3 A4 : Option Addr) (c2 c3 c4 : Nat) (w : World) :
    Calls Tryd.prog 101 #[nodeV ⟨0, n, bs, ks, al⟩ A2 c2 A3 c3 A4 c4] w (ShP ⟨0, n, bs, ks, al⟩ w) := by
  have hb9 : (bs.length : Int) ≤ 17592186044416 := by have := hs.b; simp only at this; omega
  have hk9 : (ks.length : Int) ≤ 17592186044416 := by have := hs.k; simp only at this; omega
  have ha9 : (al.length : Int) ≤ 17592186044416 := by have := hs.a; simp only at this; omega
  clear hs
  go_enter Tryd.func101, Tryd.ntmps101
  go_wp2_with fail
  all_goals go_ret
  all_goals refine ShP.mk ?_ (by first | exact below_alloc (Below.refl _ _) _ | exact pw_below_drewN (below_alloc (Below.refl _ _) _) _)
  all_goals first | (simp_all [shapeB, kidsN, altsB, bindsB, mx]; done) | (simp [shapeB, kidsN, altsB, bindsB, mx]; (try simp only [← List.length_eq_zero_iff] at *); omega) | (rw [Bool.eq_iff_iff]; simp [shapeB, kidsN, altsB, bindsB, mx]; (try simp only [← List.length_eq_zero_iff] at *); omega)

set_option maxHeartbeats 8000000 in
set_option maxRecDepth 100000 in
theorem shape_1 (n : Int) (bs ks : List Int) (al : List S86) (hs : Small ⟨1, n, bs, ks, al⟩) (A2 A3 A4 : Option Addr) (c2 c3 c4 : Nat) (w : World) :
    Calls Tryd.prog 101 #[nodeV ⟨1, n, bs, ks, al⟩ A2 c2 A3 c3 A4 c4] w (ShP ⟨1, n, bs, ks, al⟩ w) := by
  have hb9 : (bs.length : Int) ≤ 17592186044416 := by have := hs.b; simp only at this; omega
  have hk9 : (ks.length : Int) ≤ 17592186044416 := by have := hs.k; simp only at this; omega
  have ha9 : (al.length : Int) ≤ 17592186044416 := by have := hs.a; simp only at this; omega
  clear hs
  go_enter Tryd.func101, Tryd.ntmps101
  go_wp2_with fail
  all_goals go_ret
  all_goals refine ShP.mk ?_ (by first | exact below_alloc (Below.refl _ _) _ | exact pw_below_drewN (below_alloc (Below.refl _ _) _) _)
  all_goals first | (simp_all [shapeB, kidsN, altsB, bindsB, mx]; done) | (simp [shapeB, kidsN, altsB, bindsB, mx]; (try simp only [← List.length_eq_zero_iff] at *); omega) | (rw [Bool.eq_iff_iff]; simp [shapeB, kidsN, altsB, bindsB, mx]; (try simp only [← List.length_eq_zero_iff] at *); omega)

set_option maxHeartbeats 8000000 in
set_option maxRecDepth 100000 in
theorem shape_17 (n : Int) (bs ks : List Int) (al : List S86) (hs : Small ⟨17, n, bs, ks, al⟩) (A2 A3 A4 : Option Addr) (c2 c3 c4 : Nat) (w : World) :
    Calls Tryd.prog 101 #[nodeV ⟨17, n, bs, ks, al⟩ A2 c2 A3 c3 A4 c4] w (ShP ⟨17, n, bs, ks, al⟩ w) := by
  have hb9 : (bs.length : Int) ≤ 17592186044416 := by have := hs.b; simp only at this; omega
  have hk9 : (ks.length : Int) ≤ 17592186044416 := by have := hs.k; simp only at this; omega
  have ha9 : (al.length : Int) ≤ 17592186044416 := by have := hs.a; simp only at this; omega
  clear hs
  go_enter Tryd.func101, Tryd.ntmps101
  go_wp2_with fail
  all_goals go_ret
  all_goals refine ShP.mk ?_ (by first | exact below_alloc (Below.refl _ _) _ | exact pw_below_drewN (below_alloc (Below.refl _ _) _) _)
  all_goals first | (simp_all [shapeB, kidsN, altsB, bindsB, mx]; done) | (simp [shapeB, kidsN, altsB, bindsB, mx]; (try simp only [← List.length_eq_zero_iff] at *); omega) | (rw [Bool.eq_iff_iff]; simp [shapeB, kidsN, altsB, bindsB, mx]; (try simp only [← List.length_eq_zero_iff] at *); omega)

set_option maxHeartbeats 8000000 in
set_option maxRecDepth 100000 in
theorem shape_2 (n : Int) (bs ks : List Int) (al : List S86) (hs : Small ⟨2, n, bs, ks, al⟩) (A2 A3 A4 : Option Addr) (c2 c3 c4 : Nat) (w : World) :
    Calls Tryd.prog 101 #[nodeV ⟨2, n, bs, ks, al⟩ A2 c2 A3 c3 A4 c4] w (ShP ⟨2, n, bs, ks, al⟩ w) := by
  have hb9 : (bs.length : Int) ≤ 17592186044416 := by have := hs.b; simp only at this; omega
  have hk9 : (ks.length : Int) ≤ 17592186044416 := by have := hs.k; simp only at this; omega
  have ha9 : (al.length : Int) ≤ 17592186044416 := by have := hs.a; simp only at this; omega
  clear hs
  go_enter Tryd.func101, Tryd.ntmps101
  go_wp2_with fail
  go_quiet (fail)
  go_wp2_with fail
  all_goals go_ret
  all_goals refine ShP.mk ?_ (by first | exact below_alloc (Below.refl _ _) _ | exact pw_below_drewN (below_alloc (Below.refl _ _) _) _)
  all_goals first | (simp_all [shapeB, kidsN, altsB, bindsB, mx]; done) | (simp [shapeB, kidsN, altsB, bindsB, mx]; (try simp only [← List.length_eq_zero_iff] at *); omega) | (rw [Bool.eq_iff_iff]; simp [shapeB, kidsN, altsB, bindsB, mx]; (try simp only [← List.length_eq_zero_iff] at *); omega)

set_option maxHeartbeats 8000000 in
set_option maxRecDepth 100000 in
theorem shape_3 (n : Int) (bs ks : List Int) (al : List S86) (hs : Small ⟨3, n, bs, ks, al⟩) (A2 A3 A4 : Option Addr) (c2 c3 c4 : Nat) (w : World) :
    Calls Tryd.prog 101 #[nodeV ⟨3, n, bs, ks, al⟩ A2 c2 A3 c3 A4 c4] w (ShP ⟨3, n, bs, ks, al⟩ w) := by
  have hb9 : (bs.length : Int) ≤ 17592186044416 := by have := hs.b; simp only at this; omega
  have hk9 : (ks.length : Int) ≤ 17592186044416 := by have := hs.k; simp only at this; omega
  have ha9 : (al.length : Int) ≤ 17592186044416 := by have := hs.a; simp only at this; omega
  clear hs
  go_enter Tryd.func101, Tryd.ntmps101
  go_wp2_with fail
  all_goals go_ret
  all_goals refine ShP.mk ?_ (by first | exact below_alloc (Below.refl _ _) _ | exact pw_below_drewN (below_alloc (Below.refl _ _) _) _)
  all_goals first | (simp_all [shapeB, kidsN, altsB, bindsB, mx]; done) | (simp [shapeB, kidsN, altsB, bindsB, mx]; (try simp only [← List.length_eq_zero_iff] at *); omega) | (rw [Bool.eq_iff_iff]; simp [shapeB, kidsN, altsB, bindsB, mx]; (try simp only [← List.length_eq_zero_iff] at *); omega)

set_option maxHeartbeats 8000000 in
set_option maxRecDepth 100000 in
theorem shape_4 (n : Int) (bs ks : List Int) (al : List S86) (hs : Small ⟨4, n, bs, ks, al⟩) (A2 A3 A4 : Option Addr) (c2 c3 c4 : Nat) (w : World) :
    Calls Tryd.prog 101 #[nodeV ⟨4, n, bs, ks, al⟩ A2 c2 A3 c3 A4 c4] w (ShP ⟨4, n, bs, ks, al⟩ w) := by
  have hb9 : (bs.length : Int) ≤ 17592186044416 := by have := hs.b; simp only at this; omega
  have hk9 : (ks.length : Int) ≤ 17592186044416 := by have := hs.k; simp only at this; omega
  have ha9 : (al.length : Int) ≤ 17592186044416 := by have := hs.a; simp only at this; omega
  clear hs
  go_enter Tryd.func101, Tryd.ntmps101
  go_wp2_with fail
  all_goals go_ret
  all_goals refine ShP.mk ?_ (by first | exact below_alloc (Below.refl _ _) _ | exact pw_below_drewN (below_alloc (Below.refl _ _) _) _)
  all_goals first | (simp_all [shapeB, kidsN, altsB, bindsB, mx]; done) | (simp [shapeB, kidsN, altsB, bindsB, mx]; (try simp only [← List.length_eq_zero_iff] at *); omega) | (rw [Bool.eq_iff_iff]; simp [shapeB, kidsN, altsB, bindsB, mx]; (try simp only [← List.length_eq_zero_iff] at *); omega)

set_option maxHeartbeats 8000000 in
set_option maxRecDepth 100000 in
theorem shape_5 (n : Int) (bs ks : List Int) (al : List S86) (hs : Small ⟨5, n, bs, ks, al⟩) (A2 A3 A4 : Option Addr) (c2 c3 c4 : Nat) (w : World) :
    Calls Tryd.prog 101 #[nodeV ⟨5, n, bs, ks, al⟩ A2 c2 A3 c3 A4 c4] w (ShP ⟨5, n, bs, ks, al⟩ w) := by
  have hb9 : (bs.length : Int) ≤ 17592186044416 := by have := hs.b; simp only at this; omega
  have hk9 : (ks.length : Int) ≤ 17592186044416 := by have := hs.k; simp only at this; omega
  have ha9 : (al.length : Int) ≤ 17592186044416 := by have := hs.a; simp only at this; omega
  clear hs
  go_enter Tryd.func101, Tryd.ntmps101
  go_wp2_with fail
  go_quiet (fail)
  go_wp2_with fail
  all_goals go_ret
  all_goals refine ShP.mk ?_ (by first | exact below_alloc (Below.refl _ _) _ | exact pw_below_drewN (below_alloc (Below.refl _ _) _) _)
  all_goals first | (simp_all [shapeB, kidsN, altsB, bindsB, mx]; done) | (simp [shapeB, kidsN, altsB, bindsB, mx]; (try simp only [← List.length_eq_zero_iff] at *); omega) | (rw [Bool.eq_iff_iff]; simp [shapeB, kidsN, altsB, bindsB, mx]; (try simp only [← List.length_eq_zero_iff] at *); omega)

set_option maxHeartbeats 8000000 in
set_option maxRecDepth 100000 in
theorem shape_6 (n : Int) (bs ks : List Int) (al : List S86) (hs : Small ⟨6, n, bs, ks, al⟩) (A2 A3 A4 : Option Addr) (c2 c3 c4 : Nat) (w : World) :
    Calls Tryd.prog 101 #[nodeV ⟨6, n, bs, ks, al⟩ A2 c2 A3 c3 A4 c4] w (ShP ⟨6, n, bs, ks, al⟩ w) := by
  have hb9 : (bs.length : Int) ≤ 17592186044416 := by have := hs.b; simp only at this; omega
  have hk9 : (ks.length : Int) ≤ 17592186044416 := by have := hs.k; simp only at this; omega
  have ha9 : (al.length : Int) ≤ 17592186044416 := by have := hs.a; simp only at this; omega
  clear hs
  go_enter Tryd.func101, Tryd.ntmps101
  go_wp2_with fail
  all_goals go_ret
  all_goals refine ShP.mk ?_ (by first | exact below_alloc (Below.refl _ _) _ | exact pw_below_drewN (below_alloc (Below.refl _ _) _) _)
  all_goals first | (simp_all [shapeB, kidsN, altsB, bindsB, mx]; done) | (simp [shapeB, kidsN, altsB, bindsB, mx]; (try simp only [← List.length_eq_zero_iff] at *); omega) | (rw [Bool.eq_iff_iff]; simp [shapeB, kidsN, altsB, bindsB, mx]; (try simp only [← List.length_eq_zero_iff] at *); omega)

set_option maxHeartbeats 8000000 in
set_option maxRecDepth 100000 in
theorem shape_9 (n : Int) (bs ks : List Int) (al : List S86) (hs : Small ⟨9, n, bs, ks, al⟩) (A2 A3 A4 : Option Addr) (c2 c3 c4 : Nat) (w : World) :
    Calls Tryd.prog 101 #[nodeV ⟨9, n, bs, ks, al⟩ A2 c2 A3 c3 A4 c4] w (ShP ⟨9, n, bs, ks, al⟩ w) := by
  have hb9 : (bs.length : Int) ≤ 17592186044416 := by have := hs.b; simp only at this; omega
  have hk9 : (ks.length : Int) ≤ 17592186044416 := by have := hs.k; simp only at this; omega
  have ha9 : (al.length : Int) ≤ 17592186044416 := by have := hs.a; simp only at this; omega
  clear hs
  go_enter Tryd.func101, Tryd.ntmps101
  go_wp2_with fail
  go_quiet (fail)
  go_wp2_with fail
  all_goals go_ret
  all_goals refine ShP.mk ?_ (by first | exact below_alloc (Below.refl _ _) _ | exact pw_below_drewN (below_alloc (Below.refl _ _) _) _)
  all_goals first | (simp_all [shapeB, kidsN, altsB, bindsB, mx]; done) | (simp [shapeB, kidsN, altsB, bindsB, mx]; (try simp only [← List.length_eq_zero_iff] at *); omega) | (rw [Bool.eq_iff_iff]; simp [shapeB, kidsN, altsB, bindsB, mx]; (try simp only [← List.length_eq_zero_iff] at *); omega)

set_option maxHeartbeats 8000000 in
set_option maxRecDepth 100000 in
theorem shape_10 (n : Int) (bs ks : List Int) (al : List S86) (hs : Small ⟨10, n, bs, ks, al⟩) (A2 A3 A4 : Option Addr) (c2 c3 c4 : Nat) (w : World) :
    Calls Tryd.prog 101 #[nodeV ⟨10, n, bs, ks, al⟩ A2 c2 A3 c3 A4 c4] w (ShP ⟨10, n, bs, ks, al⟩ w) := by
  have hb9 : (bs.length : Int) ≤ 17592186044416 := by have := hs.b; simp only at this; omega
  have hk9 : (ks.length : Int) ≤ 17592186044416 := by have := hs.k; simp only at this; omega
  have ha9 : (al.length : Int) ≤ 17592186044416 := by have := hs.a; simp only at this; omega
  clear hs
  go_enter Tryd.func101, Tryd.ntmps101
  go_wp2_with fail
  all_goals go_ret
  all_goals refine ShP.mk ?_ (by first | exact below_alloc (Below.refl _ _) _ | exact pw_below_drewN (below_alloc (Below.refl _ _) _) _)
  all_goals first | (simp_all [shapeB, kidsN, altsB, bindsB, mx]; done) | (simp [shapeB, kidsN, altsB, bindsB, mx]; (try simp only [← List.length_eq_zero_iff] at *); omega) | (rw [Bool.eq_iff_iff]; simp [shapeB, kidsN, altsB, bindsB, mx]; (try simp only [← List.length_eq_zero_iff] at *); omega)

set_option maxHeartbeats 8000000 in
set_option maxRecDepth 100000 in
theorem shape_12 (n : Int) (bs ks : List Int) (al : List S86) (hs : Small ⟨12, n, bs, ks, al⟩) (A2 A3 A4 : Option Addr) (c2 c3 c4 : Nat) (w : World) :
    Calls Tryd.prog 101 #[nodeV ⟨12, n, bs, ks, al⟩ A2 c2 A3 c3 A4 c4] w (ShP ⟨12, n, bs, ks, al⟩ w) := by
  have hb9 : (bs.length : Int) ≤ 17592186044416 := by have := hs.b; simp only at this; omega
  have hk9 : (ks.length : Int) ≤ 17592186044416 := by have := hs.k; simp only at this; omega
  have ha9 : (al.length : Int) ≤ 17592186044416 := by have := hs.a; simp only at this; omega
  clear hs
  go_enter Tryd.func101, Tryd.ntmps101
  go_wp2_with fail
  all_goals go_ret
  all_goals refine ShP.mk ?_ (by first | exact below_alloc (Below.refl _ _) _ | exact pw_below_drewN (below_alloc (Below.refl _ _) _) _)
  all_goals first | (simp_all [shapeB, kidsN, altsB, bindsB, mx]; done) | (simp [shapeB, kidsN, altsB, bindsB, mx]; (try simp only [← List.length_eq_zero_iff] at *); omega) | (rw [Bool.eq_iff_iff]; simp [shapeB, kidsN, altsB, bindsB, mx]; (try simp only [← List.length_eq_zero_iff] at *); omega)

set_option maxHeartbeats 8000000 in
set_option maxRecDepth 100000 in
theorem shape_11 (n : Int) (bs ks : List Int) (al : List S86) (hs : Small ⟨11, n, bs, ks, al⟩) (A2 A3 A4 : Option Addr) (c2 c3 c4 : Nat) (w : World) :
    Calls Tryd.prog 101 #[nodeV ⟨11, n, bs, ks, al⟩ A2 c2 A3 c3 A4 c4] w (ShP ⟨11, n, bs, ks, al⟩ w) := by
  have hb9 : (bs.length : Int) ≤ 17592186044416 := by have := hs.b; simp only at this; omega
  have hk9 : (ks.length : Int) ≤ 17592186044416 := by have := hs.k; simp only at this; omega
  have ha9 : (al.length : Int) ≤ 17592186044416 := by have := hs.a; simp only at this; omega
  clear hs
  go_enter Tryd.func101, Tryd.ntmps101
  go_wp2_with fail
  all_goals go_ret
  all_goals refine ShP.mk ?_ (by first | exact below_alloc (Below.refl _ _) _ | exact pw_below_drewN (below_alloc (Below.refl _ _) _) _)
  all_goals first | (simp_all [shapeB, kidsN, altsB, bindsB, mx]; done) | (simp [shapeB, kidsN, altsB, bindsB, mx]; (try simp only [← List.length_eq_zero_iff] at *); omega) | (rw [Bool.eq_iff_iff]; simp [shapeB, kidsN, altsB, bindsB, mx]; (try simp only [← List.length_eq_zero_iff] at *); omega)

set_option maxHeartbeats 8000000 in
set_option maxRecDepth 100000 in
theorem shape_14 (n : Int) (bs ks : List Int) (al : List S86) (hs : Small ⟨14, n, bs, ks, al⟩) (A2 A3 A4 : Option Addr) (c2 c3 c4 : Nat) (w : World) :
    Calls Tryd.prog 101 #[nodeV ⟨14, n, bs, ks, al⟩ A2 c2 A3 c3 A4 c4] w (ShP ⟨14, n, bs, ks, al⟩ w) := by
  have hb9 : (bs.length : Int) ≤ 17592186044416 := by have := hs.b; simp only at this; omega
  have hk9 : (ks.length : Int) ≤ 17592186044416 := by have := hs.k; simp only at this; omega
  have ha9 : (al.length : Int) ≤ 17592186044416 := by have := hs.a; simp only at this; omega
  clear hs
  go_enter Tryd.func101, Tryd.ntmps101
  go_wp2_with fail
  all_goals go_ret
  all_goals refine ShP.mk ?_ (by first | exact below_alloc (Below.refl _ _) _ | exact pw_below_drewN (below_alloc (Below.refl _ _) _) _)
  all_goals first | (simp_all [shapeB, kidsN, altsB, bindsB, mx]; done) | (simp [shapeB, kidsN, altsB, bindsB, mx]; (try simp only [← List.length_eq_zero_iff] at *); omega) | (rw [Bool.eq_iff_iff]; simp [shapeB, kidsN, altsB, bindsB, mx]; (try simp only [← List.length_eq_zero_iff] at *); omega)

set_option maxHeartbeats 8000000 in
set_option maxRecDepth 100000 in
theorem shape_15 (n : Int) (bs ks : List Int) (al : List S86) (hs : Small ⟨15, n, bs, ks, al⟩) (A2 A3 A4 : Option Addr) (c2 c3 c4 : Nat) (w : World) :
    Calls Tryd.prog 101 #[nodeV ⟨15, n, bs, ks, al⟩ A2 c2 A3 c3 A4 c4] w (ShP ⟨15, n, bs, ks, al⟩ w) := by
  have hb9 : (bs.length : Int) ≤ 17592186044416 := by have := hs.b; simp only at this; omega
  have hk9 : (ks.length : Int) ≤ 17592186044416 := by have := hs.k; simp only at this; omega
  have ha9 : (al.length : Int) ≤ 17592186044416 := by have := hs.a; simp only at this; omega
  clear hs
  go_enter Tryd.func101, Tryd.ntmps101
  go_wp2_with fail
  all_goals go_ret
  all_goals refine ShP.mk ?_ (by first | exact below_alloc (Below.refl _ _) _ | exact pw_below_drewN (below_alloc (Below.refl _ _) _) _)
  all_goals first | (simp_all [shapeB, kidsN, altsB, bindsB, mx]; done) | (simp [shapeB, kidsN, altsB, bindsB, mx]; (try simp only [← List.length_eq_zero_iff] at *); omega) | (rw [Bool.eq_iff_iff]; simp [shapeB, kidsN, altsB, bindsB, mx]; (try simp only [← List.length_eq_zero_iff] at *); omega)

set_option maxHeartbeats 8000000 in
set_option maxRecDepth 100000 in
theorem shape_16 (n : Int) (bs ks : List Int) (al : List S86) (hs : Small ⟨16, n, bs, ks, al⟩) (A2 A3 A4 : Option Addr) (c2 c3 c4 : Nat) (w : World) :
    Calls Tryd.prog 101 #[nodeV ⟨16, n, bs, ks, al⟩ A2 c2 A3 c3 A4 c4] w (ShP ⟨16, n, bs, ks, al⟩ w) := by
  have hb9 : (bs.length : Int) ≤ 17592186044416 := by have := hs.b; simp only at this; omega
  have hk9 : (ks.length : Int) ≤ 17592186044416 := by have := hs.k; simp only at this; omega
  have ha9 : (al.length : Int) ≤ 17592186044416 := by have := hs.a; simp only at this; omega
  clear hs
  go_enter Tryd.func101, Tryd.ntmps101
  go_wp2_with fail
  all_goals go_ret
  all_goals refine ShP.mk ?_ (by first | exact below_alloc (Below.refl _ _) _ | exact pw_below_drewN (below_alloc (Below.refl _ _) _) _)
  all_goals first | (simp_all [shapeB, kidsN, altsB, bindsB, mx]; done) | (simp [shapeB, kidsN, altsB, bindsB, mx]; (try simp only [← List.length_eq_zero_iff] at *); omega) | (rw [Bool.eq_iff_iff]; simp [shapeB, kidsN, altsB, bindsB, mx]; (try simp only [← List.length_eq_zero_iff] at *); omega)
end Go.Proofs.YtjhinklijopobaaDoor.Co
namespace Go.Proofs.YtjhinklijopobaaDoor.Co
open Go.RowKit Go.Proofs.YtjhinklijopobaaDoor.PCoreChecks Go.Proofs.YtjhinklijopobaaDoorW.PrintWords Go.Proofs.YtjhinklijopobaaDoorW.PrintLast Go.Proofs.YtjhinklijopobaaDoorW.PrintMore
set_option linter.unusedVariables false
set_option linter.unusedSimpArgs false

theorem shapeB_alts {op n : Int} {bs ks : List Int} {al : List S86} (h : op = 7 ∨ op = 13) : shapeB ⟨op, n, bs, ks, al⟩ = (altsP ⟨op, n, bs, ks, al⟩ && (decide (bs.length = 0) && decide (n = 0))) := by
  unfold shapeB altsP altsB kidsN bindsB
  simp only
  rw [if_neg (by omega), if_neg (by omega), if_neg (by omega), if_neg (by omega), if_neg (by omega), if_pos h, if_pos h, if_neg (by omega), if_neg (by omega), if_neg (by omega), if_neg (by omega)]
  generalize (List.range al.length).all (altOk op al) = a
  rw [Bool.eq_iff_iff]
  simp only [Bool.and_eq_true, Bool.or_eq_true, decide_eq_true_eq, beq_iff_eq, Bool.false_eq_true, false_or]
  by_cases ha : a = true
  · simp only [ha, true_and]
    omega
  · simp [ha]

set_option maxHeartbeats 8000000 in
set_option maxRecDepth 100000 in
theorem shape_7 (op n : Int) (h7 : op = 7 ∨ op = 13) (bs ks : List Int) (al : List S86) (hs : Small ⟨op, n, bs, ks, al⟩) (A2 A3 A4 : Option Addr) (c2 c3 c4 : Nat) (w : World) (h : Node w ⟨op, n, bs, ks, al⟩ A2 c2 A3 c3 A4 c4) :
    Calls Tryd.prog 101 #[nodeV ⟨op, n, bs, ks, al⟩ A2 c2 A3 c3 A4 c4] w (ShP ⟨op, n, bs, ks, al⟩ w) := by
  have HK0 := Go.Lib.hid (Kx.made w ⟨op, n, bs, ks, al⟩ A2 A3 A4 c2 c3 c4)
  have HCA := Go.Lib.hid (alts_calls ⟨op, n, bs, ks, al⟩ hs h7 A2 A3 A4 c2 c3 c4 _ (h.below HK0.out.b))
  have HSH := Go.Lib.hid (shapeB_alts (n := n) (bs := bs) (ks := ks) (al := al) h7)
  have hb9 : (bs.length : Int) ≤ 17592186044416 := by have := hs.b; simp only at this; omega
  clear hs h
  rcases h7 with rfl | rfl
  all_goals
    go_enter Tryd.func101, Tryd.ntmps101
    go_wp2_with fail
    refine HCA.out.mono ?_
    rintro e w' ⟨rfl, hb⟩
    have HK1 := Go.Lib.hid (HK0.out.below hb)
    obtain ⟨x0, x1, x2, x3, x4⟩ := HK1.out.bx.cells
    clear hb HCA HK0
    generalize altsP _ = a at HSH
    cases a with
    | false =>
      rw [Bool.false_and] at HSH
      go_wp2_with fail
      go_ret
      exact ShP.mk HSH.out HK1.out.b
    | true =>
      rw [Bool.true_and] at HSH
      by_cases hb0 : bs.length = 0
      · have e1 : ((bs.length : Int) == 0) = true := by rw [hb0]; rfl
        rw [decide_eq_true hb0, Bool.true_and] at HSH
        clear hb0
        by_cases hn : n = 0
        · have e2 : (n == 0) = true := beq_iff_eq.2 hn
          rw [decide_eq_true hn] at HSH
          clear hn
          go_wp2_with fail
          go_ret
          exact ShP.mk HSH.out HK1.out.b
        · have e2 : (n == 0) = false := beq_eq_false_iff_ne.2 hn
          rw [decide_eq_false hn] at HSH
          clear hn
          go_wp2_with fail
          go_ret
          exact ShP.mk HSH.out HK1.out.b
      · have e1 : ((bs.length : Int) == 0) = false := beq_eq_false_iff_ne.2 (by omega)
        rw [decide_eq_false hb0, Bool.false_and] at HSH
        clear hb0
        go_wp2_with fail
        go_ret
        exact ShP.mk HSH.out HK1.out.b

theorem shapeB_prim {n : Int} {bs ks : List Int} {al : List S86} : shapeB ⟨8, n, bs, ks, al⟩ = (decide (0 ≤ n ∧ n ≤ 11) && (decide ((ks.length : Int) = arN n) && (decide (bs.length = 0) && decide (al.length = 0)))) := by
  have e1 : ∀ a b c : Int, kidsN 8 n a b c = if n = 7 ∨ n = 9 then (1, true) else if n = 11 then (3, true) else if 0 ≤ n ∧ n < 11 then (2, true) else (-1, false) := fun a b c => by unfold kidsN; simp
  have e2 : altsB 8 al = decide (al.length = 0) := by unfold altsB; simp
  have e3 : ∀ a : Int, bindsB 8 a = (a == 0) := fun a => by unfold bindsB; simp
  unfold shapeB arN
  simp only [e1, e2, e3]
  rw [Bool.eq_iff_iff]
  simp only [Bool.and_eq_true, Bool.or_eq_true, decide_eq_true_eq, beq_iff_eq, Bool.false_eq_true, false_or]
  by_cases h7 : n = 7 ∨ n = 9
  · rw [if_pos h7, if_pos h7]; simp [-List.length_eq_zero_iff] <;> omega
  · rw [if_neg h7, if_neg h7]
    by_cases h11 : n = 11
    · rw [if_pos h11, if_pos h11]; simp [-List.length_eq_zero_iff] <;> omega
    · rw [if_neg h11, if_neg h11]
      by_cases h0 : 0 ≤ n ∧ n < 11
      · rw [if_pos h0]; simp [-List.length_eq_zero_iff] <;> omega
      · rw [if_neg h0]; simp [-List.length_eq_zero_iff] <;> omega

set_option maxHeartbeats 8000000 in
set_option maxRecDepth 100000 in
theorem shape_8 (n : Int) (bs ks : List Int) (al : List S86) (hs : Small ⟨8, n, bs, ks, al⟩) (A2 A3 A4 : Option Addr) (c2 c3 c4 : Nat) (w : World) (hT : Tab w) :
    Calls Tryd.prog 101 #[nodeV ⟨8, n, bs, ks, al⟩ A2 c2 A3 c3 A4 c4] w (ShP ⟨8, n, bs, ks, al⟩ w) := by
  have HK0 := Go.Lib.hid (Kx.made w ⟨8, n, bs, ks, al⟩ A2 A3 A4 c2 c3 c4)
  have HTA := Go.Lib.hid (hT.below HK0.out.b)
  have HSH := Go.Lib.hid (shapeB_prim (n := n) (bs := bs) (ks := ks) (al := al))
  have hb9 : (bs.length : Int) ≤ 17592186044416 := by have := hs.b; simp only at this; omega
  have hk9 : (ks.length : Int) ≤ 17592186044416 := by have := hs.k; simp only at this; omega
  have ha9 : (al.length : Int) ≤ 17592186044416 := by have := hs.a; simp only at this; omega
  clear hs hT
  by_cases hn : 0 ≤ n ∧ n ≤ 11
  · have h0 := hn.1
    have h11 := hn.2
    rw [decide_eq_true hn, Bool.true_and] at HSH
    have p0 := HTA.out.2 n h0 h11
    have hbt := Go.Lib.hid (fun W => core_between.calls n 0 11 true W (by unfold core_between.f; rw [if_pos h0]; simp [h11]))
    clear hn
    clear p0
    go_enter Tryd.func101, Tryd.ntmps101
    go_wp2_with fail
    refine (hbt.out _).mono ?_
    rintro e w' ⟨rfl, hd⟩
    have HK1 := Go.Lib.hid (HK0.out.below hd.below)
    obtain ⟨x0, x1, x2, x3, x4⟩ := HK1.out.bx.cells
    have p0 := (HTA.out.below hd.below).2 n h0 h11
    generalize arN n = m at p0 HSH
    clear HK0 HTA hd hbt
    by_cases e1 : (ks.length : Int) = m
    · have b1 : ((ks.length : Int) == m) = true := beq_iff_eq.2 e1
      rw [decide_eq_true e1, Bool.true_and] at HSH
      clear e1
      by_cases e2 : bs.length = 0
      · have b2 : ((bs.length : Int) == 0) = true := by rw [e2]; rfl
        rw [decide_eq_true e2, Bool.true_and] at HSH
        clear e2
        by_cases e3 : al.length = 0
        · have b4 : ((al.length : Int) == 0) = true := by rw [e3]; rfl
          rw [decide_eq_true e3] at HSH
          clear e3
          go_wp2_with fail
          go_ret
          exact ShP.mk HSH.out HK1.out.b
        · have b4 : ((al.length : Int) == 0) = false := beq_eq_false_iff_ne.2 (by omega)
          rw [decide_eq_false e3] at HSH
          clear e3
          go_wp2_with fail
          go_ret
          exact ShP.mk HSH.out HK1.out.b
      · have b2 : ((bs.length : Int) == 0) = false := beq_eq_false_iff_ne.2 (by omega)
        rw [decide_eq_false e2, Bool.false_and] at HSH
        clear e2
        go_wp2_with fail
        go_ret
        exact ShP.mk HSH.out HK1.out.b
    · have b1 : ((ks.length : Int) == m) = false := beq_eq_false_iff_ne.2 e1
      rw [decide_eq_false e1, Bool.false_and] at HSH
      clear e1
      go_wp2_with fail
      go_ret
      exact ShP.mk HSH.out HK1.out.b
  · rw [decide_eq_false hn, Bool.false_and] at HSH
    have hbt := Go.Lib.hid (fun W => core_between.calls n 0 11 false W (by unfold core_between.f; by_cases h0 : n ≥ 0 <;> simp [h0]; omega))
    clear hn
    go_enter Tryd.func101, Tryd.ntmps101
    go_wp2_with fail
    refine (hbt.out _).mono ?_
    rintro e w' ⟨rfl, hd⟩
    have HK1 := Go.Lib.hid (HK0.out.below hd.below)
    clear HK0 HTA hd hbt
    go_wp2_with fail
    go_ret
    exact ShP.mk HSH.out HK1.out.b

set_option maxHeartbeats 8000000 in
set_option maxRecDepth 100000 in
theorem shape_no (op n : Int) (hop : ¬ (0 ≤ op ∧ op ≤ 17)) (bs ks : List Int) (al : List S86) (A2 A3 A4 : Option Addr) (c2 c3 c4 : Nat) (w : World) :
    Calls Tryd.prog 101 #[nodeV ⟨op, n, bs, ks, al⟩ A2 c2 A3 c3 A4 c4] w (ShP ⟨op, n, bs, ks, al⟩ w) := by
  have HV := Go.Lib.hid (ShP.mk (x := ⟨op, n, bs, ks, al⟩) (w := w) (b := false) (by
    unfold shapeB kidsN
    simp only
    rw [if_neg (by omega), if_neg (by omega), if_neg (by omega), if_neg (by omega), if_neg (by omega), if_neg (by omega), if_neg (by omega), if_neg (by omega), if_neg (by omega), if_neg (by omega), if_neg (by omega)]
    rw [decide_eq_false (by simp only; omega), Bool.false_and]) (Kx.made w ⟨op, n, bs, ks, al⟩ A2 A3 A4 c2 c3 c4).b)
  have f0 : (op == 0) = false := beq_eq_false_iff_ne.2 (by omega)
  have f1 : (op == 1) = false := beq_eq_false_iff_ne.2 (by omega)
  have f2 : (op == 2) = false := beq_eq_false_iff_ne.2 (by omega)
  have f3 : (op == 3) = false := beq_eq_false_iff_ne.2 (by omega)
  have f4 : (op == 4) = false := beq_eq_false_iff_ne.2 (by omega)
  have f5 : (op == 5) = false := beq_eq_false_iff_ne.2 (by omega)
  have f6 : (op == 6) = false := beq_eq_false_iff_ne.2 (by omega)
  have f7 : (op == 7) = false := beq_eq_false_iff_ne.2 (by omega)
  have f8 : (op == 8) = false := beq_eq_false_iff_ne.2 (by omega)
  have f9 : (op == 9) = false := beq_eq_false_iff_ne.2 (by omega)
  have f10 : (op == 10) = false := beq_eq_false_iff_ne.2 (by omega)
  have f11 : (op == 11) = false := beq_eq_false_iff_ne.2 (by omega)
  have f12 : (op == 12) = false := beq_eq_false_iff_ne.2 (by omega)
  have f13 : (op == 13) = false := beq_eq_false_iff_ne.2 (by omega)
  have f14 : (op == 14) = false := beq_eq_false_iff_ne.2 (by omega)
  have f15 : (op == 15) = false := beq_eq_false_iff_ne.2 (by omega)
  have f16 : (op == 16) = false := beq_eq_false_iff_ne.2 (by omega)
  have f17 : (op == 17) = false := beq_eq_false_iff_ne.2 (by omega)
  clear hop
  go_enter Tryd.func101, Tryd.ntmps101
  go_wp2_with fail
  go_ret
  exact HV.out

/-- The program's test of a node's parts. -/
theorem shape_calls (x : S28) (hs : Small x) (A2 A3 A4 : Option Addr) (c2 c3 c4 : Nat) (w : World) (hT : Tab w) (h : Node w x A2 c2 A3 c3 A4 c4) :
    Calls Tryd.prog 101 #[nodeV x A2 c2 A3 c3 A4 c4] w (ShP x w) := by
  obtain ⟨op, n, bs, ks, al⟩ := x
  by_cases hop : 0 ≤ op ∧ op ≤ 17
  · have : op = 0 ∨ op = 1 ∨ op = 2 ∨ op = 3 ∨ op = 4 ∨ op = 5 ∨ op = 6 ∨ (op = 7 ∨ op = 13) ∨ op = 8 ∨ op = 9 ∨ op = 10 ∨ op = 11 ∨ op = 12 ∨ op = 14 ∨ op = 15 ∨ op = 16 ∨ op = 17 := by omega
    rcases this with rfl | rfl | rfl | rfl | rfl | rfl | rfl | h7 | rfl | rfl | rfl | rfl | rfl | rfl | rfl | rfl | rfl
    · exact shape_0 n bs ks al hs A2 A3 A4 c2 c3 c4 w
    · exact shape_1 n bs ks al hs A2 A3 A4 c2 c3 c4 w
    · exact shape_2 n bs ks al hs A2 A3 A4 c2 c3 c4 w
    · exact shape_3 n bs ks al hs A2 A3 A4 c2 c3 c4 w
    · exact shape_4 n bs ks al hs A2 A3 A4 c2 c3 c4 w
    · exact shape_5 n bs ks al hs A2 A3 A4 c2 c3 c4 w
    · exact shape_6 n bs ks al hs A2 A3 A4 c2 c3 c4 w
    · exact shape_7 op n h7 bs ks al hs A2 A3 A4 c2 c3 c4 w h
    · exact shape_8 n bs ks al hs A2 A3 A4 c2 c3 c4 w hT
    · exact shape_9 n bs ks al hs A2 A3 A4 c2 c3 c4 w
    · exact shape_10 n bs ks al hs A2 A3 A4 c2 c3 c4 w
    · exact shape_11 n bs ks al hs A2 A3 A4 c2 c3 c4 w
    · exact shape_12 n bs ks al hs A2 A3 A4 c2 c3 c4 w
    · exact shape_14 n bs ks al hs A2 A3 A4 c2 c3 c4 w
    · exact shape_15 n bs ks al hs A2 A3 A4 c2 c3 c4 w
    · exact shape_16 n bs ks al hs A2 A3 A4 c2 c3 c4 w
    · exact shape_17 n bs ks al hs A2 A3 A4 c2 c3 c4 w
  · exact shape_no op n hop bs ks al A2 A3 A4 c2 c3 c4 w
end Go.Proofs.YtjhinklijopobaaDoor.Co
