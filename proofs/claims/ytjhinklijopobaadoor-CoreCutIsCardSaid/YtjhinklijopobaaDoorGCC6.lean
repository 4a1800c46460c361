import Derived.Maps.OwnSet
import Derived.Maps.RangeWalk
import Derived.WalkArith
import Derived.Test.YtjhinklijopobaaDoorGCC5
import Derived.Lib.SliceRun
import Derived.Deep.RegionLaw
import Derived.Deep.RegionHeld3
namespace Go.Proofs.YtjhinklijopobaaDoor.Co
open Go.RowKit Go.Proofs.YtjhinklijopobaaDoor.PCoreChecks Go.Proofs.YtjhinklijopobaaDoorW.PrintWords Go.Proofs.YtjhinklijopobaaDoorW.PrintLast Go.Proofs.YtjhinklijopobaaDoorW.PrintMore
open Go.Maps (Keyed has size IsMap Tidy)
set_option linter.unusedVariables false
set_option linter.unusedSimpArgs false

/-! ### Maps of numbers -/
theorem kd3 : Keyed Tryd.prog 3 := Maps.int_keyed Tryd.underlying3
theorem zero134 (w : World) : (zeroValue 134).run Tryd.prog w = .ok (.agg #[]) w := by kernel_rfl
theorem zero3 (w : World) : (zeroValue 3).run Tryd.prog w = .ok (.int .i64 0) w := by kernel_rfl
theorem wf64 {z : Int} (h0 : -9223372036854775808 ≤ z) (h1 : z ≤ 9223372036854775807) : (Lit.int .i64 z).wf = true := WalkArith.wf_i64 ⟨h0, h1⟩
theorem key3 {z : Int} (h : (Lit.int .i64 z).wf = true) : keyOf Tryd.prog 3 (.int .i64 z) = some (.int .i64 z) := Maps.keyOf_int_mk Tryd.underlying3 h
theorem lit_inj {a b : Int} (h : (Lit.int .i64 a) = .int .i64 b) : a = b := by injection h

/-- A set of numbers. -/
def Se (w : World) (mb n : Nat) (S : Int → Prop) : Prop := ∃ D : DataW Unit, w.ownsMap Tryd.prog 3 unitElem mb n D ∧ ∀ z : Int, has D (.int .i64 z) = true ↔ S z
theorem Se.made (w : World) : Se (w.alloc (.map #[] 0)) w.heap.size 0 (fun _ => False) := ⟨_, World.ownsMap_made _ _ _ _, fun z => by simp [has]⟩
theorem Se.lt {w : World} {mb n : Nat} {S : Int → Prop} (h : Se w mb n S) : mb < w.heap.size := by obtain ⟨D, h1, _⟩ := h; exact h1.lt
theorem Se.kept {w w' : World} {mb n : Nat} {S : Int → Prop} {row : Option Nat} (h : Se w mb n S) (hg : w.grownBy w' row) (hne : some mb ≠ row) : Se w' mb n S := by obtain ⟨D, h1, h2⟩ := h; exact ⟨D, h1.kept hg hne, h2⟩
theorem Se.below {w w' : World} {mb n : Nat} {S : Int → Prop} (h : Se w mb n S) (hb : Below w.heap.size w w') : Se w' mb n S := h.kept (grown_of_below hb none) (by simp)
theorem Se.mono {w : World} {mb n m : Nat} {S : Int → Prop} (h : Se w mb n S) (hn : n ≤ m) : Se w mb m S := by obtain ⟨D, h1, h2⟩ := h; exact ⟨D, h1.mono hn, h2⟩
theorem Se.congr {w : World} {mb n : Nat} {S T : Int → Prop} (h : Se w mb n S) (he : ∀ z, S z ↔ T z) : Se w mb n T := by obtain ⟨D, h1, h2⟩ := h; exact ⟨D, h1, fun z => (h2 z).trans (he z)⟩
section
variable {ops : Array Oper} {rest : List Oper} {o : Oper} {a : Act} {Q : Exit → Act → World → Prop}
theorem wp_has (w : World) (hg : o.guard = none) (m x : Operand) (hop : o.op = Op.lookup 114 m x true) (mb n : Nat) (S : Int → Prop) (hm : a.eval m = .map (some mb)) (h : Se w mb n S) (z : Int) (hx : a.eval x = .int .i64 z) (hz : (Lit.int .i64 z).wf = true)
    (hK : ∀ b : Bool, (b = true ↔ S z) → wpList Tryd.prog ops Q rest (a.put o.dst (.tuple #[.agg #[], .bool b])) w) : wpList Tryd.prog ops Q (o :: rest) a w := by
  obtain ⟨D, h1, h2⟩ := h
  exact wpList_lookup_own_unit w hg m x 114 hop 3 134 kd3 Tryd.underlying114 (zero134 w) mb n D hm h1 _ _ hx (key3 hz) (hK _ (h2 z))
theorem Se.put {w' : World} {mb n : Nat} {S : Int → Prop} {z : Int} {D : DataW Unit} (hi : IsMap D) (hz : (Lit.int .i64 z).wf = true) (h2 : ∀ y : Int, has D (.int .i64 y) = true ↔ S y) (h : w'.ownsMap Tryd.prog 3 unitElem mb n (D.put (.int .i64 z) (.agg []))) : Se w' mb n (fun y => y = z ∨ S y) := by
  refine ⟨_, h, fun y => ?_⟩
  by_cases e : y = z
  · subst e
    rw [Maps.has_put_same hi (kd3.key (key3 hz))]
    simp
  · rw [Maps.has_put_other (fun h => e (lit_inj h)), h2]
    simp [e]
theorem wp_add (w : World) (hg : o.guard = none) (m x v : Operand) (hop : o.op = Op.mapUpdate 114 m x v) (mb n : Nat) (S : Int → Prop) (hm : a.eval m = .map (some mb)) (h : Se w mb n S) (hn : n < maxLen) (z : Int) (hx : a.eval x = .int .i64 z) (hz : (Lit.int .i64 z).wf = true) (hv : a.eval v = .agg #[])
    (hK : ∀ w', Se w' mb (n + 1) (fun y => y = z ∨ S y) → w.grownBy w' (some mb) → wpList Tryd.prog ops Q rest (a.put o.dst undef) w') : wpList Tryd.prog ops Q (o :: rest) a w := by
  obtain ⟨D, h1, h2⟩ := h
  exact wpList_mapUpdate_own w hg m x v 114 hop 3 134 kd3 Tryd.underlying114 unitElem mb n D hm h1 hn _ _ _ hx hv (key3 hz) (.agg []) [] unitElem_mk (fun w' r1 r2 => hK w' (Se.put h1.isMap hz h2 r1) r2)
end

/-! A map whose keys are identifiers has room. -/
def idz (z : Int) : Prop := 0 ≤ z ∧ z < 1048576
theorem nodup_small : ∀ (n : Nat) (l : List Int), l.Pairwise (fun a b => a ≠ b) → (∀ z ∈ l, 0 ≤ z ∧ z < (n : Int)) → l.length ≤ n := by
  intro n l hd h
  refine count_len n l h (fun k hk => ?_)
  have : l.Nodup := hd
  exact List.nodup_iff_count.1 this _
theorem size_small {D : DataW Unit} (ht : Tidy D) (hk : ∀ k, has D k = true → ∃ z, idz z ∧ k = .int .i64 z) (hkey : ∀ p, (∃ es, D = .map es ∧ p ∈ es) → has D p.1 = true) : size D ≤ 1048576 := by
  obtain ⟨es, rfl, hp⟩ := ht
  have hz : ∀ p ∈ es, ∃ z, idz z ∧ p.1 = .int .i64 z := fun p hpm => hk _ (hkey p ⟨es, rfl, hpm⟩)
  have hnum : ∀ p ∈ es, p.1 = .int .i64 (match p.1 with | .int _ z => z | _ => 0) := fun p hpm => by
    obtain ⟨z, _, e⟩ := hz p hpm
    rw [e]
  have h1 : (es.map (fun p => match p.1 with | .int _ z => z | _ => 0)).length ≤ 1048576 := by
    refine nodup_small 1048576 _ ?_ ?_
    · rw [List.pairwise_map]
      refine hp.imp_of_mem (fun {a b} ha hb hab e => hab ?_)
      rw [hnum a ha, hnum b hb, e]
    · intro z hzm
      obtain ⟨p, hpm, rfl⟩ := List.mem_map.1 hzm
      obtain ⟨z, hz1, e⟩ := hz p hpm
      rw [e]
      exact hz1
  rw [List.length_map] at h1
  exact h1
theorem own_small {R : Value → Option (DataW Unit × List MemPlace)} {w : World} {mb n : Nat} {D : DataW Unit} (h : w.ownsMap Tryd.prog 3 R mb n D) (hk : ∀ k, has D k = true → ∃ z, idz z ∧ k = .int .i64 z) : w.ownsMap Tryd.prog 3 R mb 1048576 D := by
  obtain ⟨es0, hD0, -, hkl⟩ := h.entries kd3
  have hs := size_small (h.tidy kd3) hk (fun p hp => by
    obtain ⟨es, e, hm⟩ := hp
    rw [hD0] at e
    injection e with e
    subst e
    rw [hD0, Maps.has_eq, List.any_eq_true]
    exact ⟨p, hm, by
      have h1 := hkl p hm
      exact WideAt.sameKey_self h1⟩)
  obtain ⟨es, clock, hb, F, _, hD⟩ := h
  refine ⟨es, clock, hb, F, ?_, hD⟩
  rw [hD] at hs
  simpa [Maps.size, length_sorted] using hs

/-- A set of identifiers. -/
def So (w : World) (mb : Nat) (S : Int → Prop) : Prop := ∃ D : DataW Unit, w.ownsMap Tryd.prog 3 unitElem mb 1048576 D ∧ (∀ z : Int, has D (.int .i64 z) = true ↔ S z) ∧ ∀ k, has D k = true → ∃ z, idz z ∧ k = .int .i64 z
/-- How often each identifier is bound. -/
def Mi (w : World) (mb : Nat) (f : Int → Int) : Prop := ∃ D : DataW Unit, w.ownsMap Tryd.prog 3 (plainElem Tryd.prog 3) mb 1048576 D ∧ (∀ z : Int, D.atKey (.int .i64 z) (.lit (.int .i64 0)) = .lit (.int .i64 (f z))) ∧ ∀ k, has D k = true → ∃ z, idz z ∧ k = .int .i64 z
theorem So.made (w : World) : So (w.alloc (.map #[] 0)) w.heap.size (fun _ => False) := ⟨_, (World.ownsMap_made _ _ _ _).mono (Nat.zero_le _), fun z => by simp [has], fun k h => by simp [has] at h⟩
theorem Mi.made (w : World) : Mi (w.alloc (.map #[] 0)) w.heap.size (fun _ => 0) := ⟨_, (World.ownsMap_made _ _ _ _).mono (Nat.zero_le _), fun z => rfl, fun k h => by simp [has] at h⟩
theorem So.lt {w : World} {mb : Nat} {S : Int → Prop} (h : So w mb S) : mb < w.heap.size := by obtain ⟨D, h1, _⟩ := h; exact h1.lt
theorem Mi.lt {w : World} {mb : Nat} {f : Int → Int} (h : Mi w mb f) : mb < w.heap.size := by obtain ⟨D, h1, _⟩ := h; exact h1.lt
theorem So.kept {w w' : World} {mb : Nat} {S : Int → Prop} {row : Option Nat} (h : So w mb S) (hg : w.grownBy w' row) (hne : some mb ≠ row) : So w' mb S := by obtain ⟨D, h1, h2⟩ := h; exact ⟨D, h1.kept hg hne, h2⟩
theorem Mi.kept {w w' : World} {mb : Nat} {f : Int → Int} {row : Option Nat} (h : Mi w mb f) (hg : w.grownBy w' row) (hne : some mb ≠ row) : Mi w' mb f := by obtain ⟨D, h1, h2⟩ := h; exact ⟨D, h1.kept hg hne, h2⟩
theorem So.below {w w' : World} {mb : Nat} {S : Int → Prop} (h : So w mb S) (hb : Below w.heap.size w w') : So w' mb S := h.kept (grown_of_below hb none) (by simp)
theorem Mi.below {w w' : World} {mb : Nat} {f : Int → Int} (h : Mi w mb f) (hb : Below w.heap.size w w') : Mi w' mb f := h.kept (grown_of_below hb none) (by simp)
theorem So.congr {w : World} {mb : Nat} {S T : Int → Prop} (h : So w mb S) (he : ∀ z, S z ↔ T z) : So w mb T := by obtain ⟨D, h1, h2, h3⟩ := h; exact ⟨D, h1, fun z => (h2 z).trans (he z), h3⟩
theorem Mi.congr {w : World} {mb : Nat} {f g : Int → Int} (h : Mi w mb f) (he : ∀ z, f z = g z) : Mi w mb g := by
  have : f = g := funext he
  subst this; exact h
theorem keys_put {D : DataW Unit} {z : Int} (hz : idz z) (hk : ∀ k, has D k = true → ∃ z, idz z ∧ k = .int .i64 z) (d : DataW Unit) : ∀ k, has (D.put (.int .i64 z) d) k = true → ∃ z, idz z ∧ k = .int .i64 z := by
  intro k h
  by_cases e : k = .int .i64 z
  · exact ⟨z, hz, e⟩
  · rw [Maps.has_put_other e] at h
    exact hk k h
theorem idz_wf {z : Int} (hz : idz z) : (Lit.int .i64 z).wf = true := wf64 (by have := hz.1; omega) (by have := hz.2; omega)
/-- One number more at an identifier. -/
def upd (f : Int → Int) (z c : Int) : Int → Int := fun y => if y = z then c else f y
section
variable {ops : Array Oper} {rest : List Oper} {o : Oper} {a : Act} {Q : Exit → Act → World → Prop}
theorem wp_out (w : World) (hg : o.guard = none) (m x v : Operand) (hop : o.op = Op.mapUpdate 114 m x v) (mb : Nat) (S : Int → Prop) (hm : a.eval m = .map (some mb)) (h : So w mb S) (z : Int) (hx : a.eval x = .int .i64 z) (hz : idz z) (hv : a.eval v = .agg #[])
    (hK : ∀ w', So w' mb (fun y => y = z ∨ S y) → w.grownBy w' (some mb) → wpList Tryd.prog ops Q rest (a.put o.dst undef) w') : wpList Tryd.prog ops Q (o :: rest) a w := by
  obtain ⟨D, h1, h2, h3⟩ := h
  refine wpList_mapUpdate_own w hg m x v 114 hop 3 134 kd3 Tryd.underlying114 unitElem mb 1048576 D hm h1 (by unfold maxLen; omega) _ _ _ hx hv (key3 (idz_wf hz)) (.agg []) [] unitElem_mk (fun w' r1 r2 => hK w' ?_ r2)
  have h4 := keys_put hz h3 (.agg [])
  obtain ⟨D', r1', r2'⟩ := Se.put h1.isMap (idz_wf hz) h2 r1
  refine ⟨_, own_small r1 h4, fun y => ?_, h4⟩
  by_cases e : y = z
  · subst e
    rw [Maps.has_put_same h1.isMap (kd3.key (key3 (idz_wf hz)))]
    simp
  · rw [Maps.has_put_other (fun h => e (lit_inj h)), h2]
    simp [e]
theorem wp_get (w : World) (hg : o.guard = none) (m x : Operand) (hop : o.op = Op.lookup 99 m x false) (mb : Nat) (f : Int → Int) (hm : a.eval m = .map (some mb)) (h : Mi w mb f) (z : Int) (hx : a.eval x = .int .i64 z) (hz : (Lit.int .i64 z).wf = true)
    (hK : wpList Tryd.prog ops Q rest (a.put o.dst (.int .i64 (f z))) w) : wpList Tryd.prog ops Q (o :: rest) a w := by
  obtain ⟨D, h1, h2, h3⟩ := h
  refine wpList_lookup_own_int w hg m x 99 hop 3 3 .i64 kd3 Tryd.underlying99 Tryd.underlying3 (zero3 w) mb 1048576 D hm h1 _ _ hx (key3 hz) (fun c hc _ => ?_)
  have e : c = f z := by
    have := hc.symm.trans (h2 z)
    injection this with this
    exact lit_inj this
  rw [e]; exact hK
theorem wp_set (w : World) (hg : o.guard = none) (m x v : Operand) (hop : o.op = Op.mapUpdate 99 m x v) (mb : Nat) (f : Int → Int) (hm : a.eval m = .map (some mb)) (h : Mi w mb f) (z c : Int) (hx : a.eval x = .int .i64 z) (hz : idz z) (hv : a.eval v = .int .i64 c) (hc : (Lit.int .i64 c).wf = true)
    (hK : ∀ w', Mi w' mb (upd f z c) → w.grownBy w' (some mb) → wpList Tryd.prog ops Q rest (a.put o.dst undef) w') : wpList Tryd.prog ops Q (o :: rest) a w := by
  obtain ⟨D, h1, h2, h3⟩ := h
  refine wpList_mapUpdate_own w hg m x v 99 hop 3 3 kd3 Tryd.underlying99 (plainElem Tryd.prog 3) mb 1048576 D hm h1 (by unfold maxLen; omega) _ _ _ hx hv (key3 (idz_wf hz)) (.lit (.int .i64 c)) [] (plainElem_int Tryd.underlying3 hc) (fun w' r1 r2 => hK w' ?_ r2)
  have h4 := keys_put hz h3 (.lit (.int .i64 c))
  refine ⟨_, own_small r1 h4, fun y => ?_, h4⟩
  unfold upd
  by_cases e : y = z
  · subst e
    rw [Maps.atKey_put_same h1.isMap (kd3.key (key3 (idz_wf hz))), if_pos rfl]
  · rw [Maps.atKey_put_other (fun h => e (lit_inj h)), h2, if_neg e]
end
end Go.Proofs.YtjhinklijopobaaDoor.Co
namespace Go.Proofs.YtjhinklijopobaaDoor.Co
open Go.RowKit Go.Proofs.YtjhinklijopobaaDoor.PCoreChecks Go.Proofs.YtjhinklijopobaaDoorW.PrintWords Go.Proofs.YtjhinklijopobaaDoorW.PrintLast Go.Proofs.YtjhinklijopobaaDoorW.PrintMore
set_option linter.unusedVariables false
set_option linter.unusedSimpArgs false

/-! ### Identifiers bound twice -/
theorem dupB_iff (l : List Int) : dupB l = true ↔ ¬ l.Nodup := by
  unfold dupB
  rw [List.any_eq_true]
  constructor
  · rintro ⟨i, hi, h⟩ hd
    have hi' := List.mem_range.1 hi
    have h2 := of_decide_eq_true h
    rw [rd_nat l i hi'] at h2
    obtain ⟨j, hj, e⟩ := List.mem_iff_getElem.1 h2
    rw [List.length_take] at hj
    rw [List.getElem_take] at e
    exact List.pairwise_iff_getElem.1 (List.nodup_iff_pairwise_ne.1 hd) j i (by omega) hi' (by omega) e
  · intro hd
    refine Classical.byContradiction fun hn => hd ?_
    rw [List.nodup_iff_pairwise_ne, List.pairwise_iff_getElem]
    intro i j hi hj hij e
    refine hn ⟨j, List.mem_range.2 hj, decide_eq_true ?_⟩
    rw [rd_nat l j hj, ← e]
    exact List.mem_iff_getElem.2 ⟨i, by rw [List.length_take]; omega, by rw [List.getElem_take]⟩
theorem dup_hit {l p q : List Int} {z : Int} (hl : l = p ++ z :: q) (hz : z ∈ p) : dupB l = true := by
  rw [dupB_iff, hl]
  intro h
  exact (List.nodup_append.1 h).2.2 z hz z (by simp) rfl
theorem dup_no {l : List Int} (h : l.Nodup) : dupB l = false := by
  cases e : dupB l with
  | false => rfl
  | true => exact absurd h ((dupB_iff l).1 e)
theorem nodup_snoc {p : List Int} {z : Int} (h : p.Nodup) (hz : z ∉ p) : (p ++ [z]).Nodup := by
  rw [List.nodup_append]
  exact ⟨h, by simp, fun a ha b hb e => by rw [List.mem_singleton] at hb; subst hb; subst e; exact hz ha⟩
theorem bool_false {b : Bool} {p : Prop} (h : b = true ↔ p) (hn : ¬ p) : b = false := by
  cases b with
  | false => rfl
  | true => exact absurd (h.1 rfl) hn
/-- Each cell that reads reads on. -/
def Stay (w w' : World) : Prop := ∀ a v, w.cell? a = some v → w'.cell? a = some v
theorem Stay.of_below {w w' : World} (hb : Below w.heap.size w w') : Stay w w' := fun a v h => pw_cell_below hb h
theorem Stay.trans {w w1 w2 : World} (h : Stay w w1) (k : Stay w1 w2) : Stay w w2 := fun a v hc => k a v (h a v hc)
theorem Stay.of_map {w w' : World} {mb : Nat} {es : Array MapEntry} {clock : Nat} (hm : w.heap[mb]? = some (.map es clock)) (hg : w.grownBy w' (some mb)) : Stay w w' := fun a v h => by
  have hlt := World.block_lt_of_cell? w a h
  by_cases e : a.block = mb
  · exfalso
    unfold World.cell? at h
    rw [e, hm] at h
    cases h
  · rw [World.cell?_of_block (hg.block _ hlt (by simpa using e))]
    exact h
theorem Se.stay {w w' : World} {mb n : Nat} {S : Int → Prop} (h : Se w mb n S) (hg : w.grownBy w' (some mb)) : Stay w w' := by
  obtain ⟨D, ⟨es, clock, hb, _⟩, _⟩ := h
  exact Stay.of_map hb hg
theorem C_stay {w w' : World} {A : Option Addr} {n : Nat} {xs : List Int} (h : Kd.C (Kd.int .i64) w A n xs) (hs : Stay w w') : Kd.C (Kd.int .i64) w' A n xs :=
  ⟨h.1, h.2.1, fun hn => by
    obtain ⟨ad, e, hc⟩ := h.2.2 hn
    refine ⟨ad, e, fun j p hj => ?_⟩
    obtain ⟨c, hl, hk, hcell⟩ := hc j p hj
    exact ⟨c, hl, hk, fun i u hu => hs _ _ (hcell i u hu)⟩⟩
/-- What is seen so far. -/
structure Tw (w W : World) (l : List Int) : Prop where
  b : Below w.heap.size w W
  s : Se W w.heap.size l.length (fun z => z ∈ l)
theorem Tw.start (w : World) : Tw w (w.alloc (.map #[] 0)) [] := ⟨below_alloc (Below.refl _ _) _, (Se.made w).congr (by simp)⟩
theorem Tw.lift {w W W' : World} {l : List Int} (h : Tw w W l) (hb : Below W.heap.size W W') : Tw w W' l := ⟨below_step h.b hb, h.s.below hb⟩
theorem Tw.add {w W W' : World} {l : List Int} {z : Int} (h : Tw w W l) (hs : Se W' w.heap.size (l.length + 1) (fun y => y = z ∨ y ∈ l)) (hg : W.grownBy W' (some w.heap.size)) : Tw w W' (l ++ [z]) :=
  ⟨h.b.grown hg h.b.size (fun k hk => by cases hk; exact Nat.le_refl _), by
    rw [List.length_append, List.length_singleton]
    exact hs.congr (fun y => by simp [or_comm])⟩
def TwP (t : List S28) (params : List Int) (w : World) (e : Ending) (w' : World) : Prop := e = .returned (.bool (dupB (allB params t))) ∧ Below w.heap.size w w'
theorem TwP.mk {t : List S28} {params : List Int} {w w' : World} {b : Bool} (h : dupB (allB params t) = b) (hb : Below w.heap.size w w') : TwP t params w (.returned (.bool b)) w' := ⟨by rw [h], hb⟩

set_option maxHeartbeats 8000000 in
set_option maxRecDepth 100000 in
theorem twice_calls (t : List S28) (params : List Int) (hn : t.length ≤ 4096) (hf : ∀ x ∈ t, Fit x) (hid : ∀ x ∈ t, ∀ z ∈ bindsOf x, idz z) (hpl : params.length ≤ 1000) (hpw : ∀ z ∈ params, idz z) (A0 Ap : Option Addr) (c0 cp : Nat) (w : World) (hr : Kd.C k28 w A0 t.length t) (hp : Kd.C (Kd.int .i64) w Ap params.length params) :
    Calls Tryd.prog 73 #[.slice A0 t.length c0, .slice Ap params.length cp] w (TwP t params w) := by
  have HR := Go.Lib.hid hr
  have HP := Go.Lib.hid hp
  have HF := Go.Lib.hid hf
  have HID := Go.Lib.hid hid
  have HPW := Go.Lib.hid hpw
  have ht9 : (t.length : Int) ≤ 4096 := by omega
  have hp9 : (params.length : Int) ≤ 1000 := by omega
  have HT0 := Go.Lib.hid (Tw.start w)
  have hmm := @run_makeMap Tryd.prog
  clear hr hp hf hid hpw hn hpl
  go_enter Tryd.func73, Tryd.ntmps73
  go_wp2_with fail
  go_loopg [20] params.length (fun g_ v20 w' => ∃ i : Nat, Hid (i + g_ = params.length) ∧ v20 = .int .i64 i ∧ Hid ((params.take i).Nodup) ∧ Hid (Tw w w' (params.take i)))
  case atStart => exact ⟨0, Go.Lib.hid (by omega), rfl, Go.Lib.hid (by simp), HT0⟩
  case round =>
    clear HT0
    obtain ⟨i, hi, rfl, hnd, htw⟩ := hrel
    obtain ⟨wo, hwo⟩ : ∃ wo : World, wo = wr := ⟨_, rfl⟩
    subst hwo
    by_cases hlt : i < params.length
    · have hlt' : (i : Int) < (params.length : Int) := by omega
      have hi0 : (0 : Int) ≤ (i : Int) := by omega
      have HI := Go.Lib.hid hlt
      obtain ⟨ad, e_, p0⟩ := Kd.at_int (Kd.C_below HP.out htw.out.b) (i : Int) hi0 hlt'
      cases e_
      rw [rd_nat params i hlt, Int.toNat_natCast] at p0
      have HTK := Go.Lib.hid (List.take_succ_eq_append_getElem hlt)
      have HZ := Go.Lib.hid (HPW.out _ (List.getElem_mem hlt))
      have HAL := Go.Lib.hid (show allB params t = params.take i ++ (params[i]'hlt) :: (params.drop (i + 1) ++ t.flatMap bindsOf) by
        unfold allB
        have e := (List.take_append_drop i params).symm
        rw [List.drop_eq_getElem_cons hlt] at e
        conv => lhs; rw [e]
        simp only [List.append_assoc, List.cons_append])
      generalize params[i]'hlt = z at p0 HTK HZ HAL
      have HTB := Go.Lib.hid (htw.out.lift (below_alloc (Below.refl _ _) (.cells #[] 134)))
      clear hlt
      by_cases hz : z ∈ params.take i
      · have HV := Go.Lib.hid (TwP.mk (w := w) (dup_hit HAL.out hz) HTB.out.b)
        have HZM := Go.Lib.hid hz
        clear hz
        go_wp2_with (first | (at_lookup; refine wp_has _ rfl _ _ rfl w.heap.size _ _ rfl htw.out.s z rfl (idz_wf HZ.out) ?_; intro bb hbb; obtain rfl : bb = true := hbb.2 HZM.out; clear hbb) | fail)
        go_ret
        exact HV.out
      · have HZM := Go.Lib.hid hz
        clear hz
        have HLL := Go.Lib.hid (show (params.take i).length < maxLen by rw [List.length_take]; unfold maxLen; omega)
        go_wp2_with (first | (at_lookup; refine wp_has _ rfl _ _ rfl w.heap.size _ _ rfl htw.out.s z rfl (idz_wf HZ.out) ?_; intro bb hbb; obtain rfl := bool_false hbb HZM.out; clear hbb) | (at_mapUpdate; refine wp_add _ rfl _ _ _ rfl w.heap.size _ _ rfl HTB.out.s HLL.out z rfl (idz_wf HZ.out) rfl ?_; intro w5 hs5 hg5; have HT5 := Go.Lib.hid (HTB.out.add hs5 hg5); clear hs5 hg5) | fail)
        go_roundg (gk - 1)
        case measure => have := hi.out; have := HI.out; omega
        case rel => exact ⟨i + 1, Go.Lib.hid (by have := hi.out; have := HI.out; omega), by go_num, Go.Lib.hid (by rw [HTK.out]; exact nodup_snoc hnd.out HZM.out), Go.Lib.hid (by rw [HTK.out]; exact HT5.out)⟩
    · have hd : decide ((i : Int) < (params.length : Int)) = false := decide_eq_false (by omega)
      have hd2 : decide (i < params.length) = false := decide_eq_false hlt
      have HND := Go.Lib.hid (show params.Nodup by have h := hnd.out; rw [List.take_of_length_le (by omega)] at h; exact h)
      have HTW := Go.Lib.hid (show Tw w wo params by have h := htw.out; rw [List.take_of_length_le (by omega)] at h; exact h)
      clear hlt hnd htw hi
      go_wp2_with fail
      go_loopg [37] t.length (fun g_ v37 w' => ∃ i : Nat, Hid (i + g_ = t.length) ∧ v37 = .int .i64 i ∧ Hid ((params ++ (t.take i).flatMap bindsOf).Nodup) ∧ Hid (Tw w w' (params ++ (t.take i).flatMap bindsOf)) ∧ Hid ((params ++ (t.take i).flatMap bindsOf).length ≤ 1000 + i * 65552))
      case atStart => exact ⟨0, Go.Lib.hid (by omega), rfl, Go.Lib.hid (by simpa using HND.out), Go.Lib.hid (by simpa using HTW.out), Go.Lib.hid (by simp; omega)⟩
      case round =>
        clear HND HTW
        obtain ⟨i, hi, rfl, hnd, htw, hln⟩ := hrel
        obtain ⟨wo, hwo⟩ : ∃ wo : World, wo = wr := ⟨_, rfl⟩
        subst hwo
        by_cases hlt : i < t.length
        · have hlt' : (i : Int) < (t.length : Int) := by omega
          have hi0 : (0 : Int) ≤ (i : Int) := by omega
          have HI := Go.Lib.hid hlt
          obtain ⟨ad, A2, c2, A3, c3, A4, c4, e_, p0, p1, p2, p3, p4, l2, g2, l3, g3, l4, g4⟩ := at_T28 HR.out (i : Int) hi0 hlt'
          cases e_
          rw [rdT_nat t i hlt] at p0 p1 p2 p3 p4 l2 g2 l3 g3 l4 g4
          rw [Int.toNat_natCast] at p0 p1 p2 p3 p4
          replace p0 := pw_cell_below htw.out.b p0
          replace p1 := pw_cell_below htw.out.b p1
          replace p2 := pw_cell_below htw.out.b p2
          replace p3 := pw_cell_below htw.out.b p3
          replace p4 := pw_cell_below htw.out.b p4
          have HFT := Go.Lib.hid (HF.out _ (List.getElem_mem hlt))
          have HIX := Go.Lib.hid (HID.out _ (List.getElem_mem hlt))
          have HSN := Go.Lib.hid (flatB_snoc t i hlt)
          have HAL := Go.Lib.hid (show allB params t = (params ++ (t.take i).flatMap bindsOf) ++ (bindsOf (t[i]'hlt) ++ (t.drop (i + 1)).flatMap bindsOf) by
            unfold allB
            have e := (List.take_append_drop i t).symm
            rw [List.drop_eq_getElem_cons hlt] at e
            conv => lhs; rw [e]
            rw [List.flatMap_append, List.flatMap_cons, List.append_assoc])
          generalize t[i]'hlt = x at p0 p1 p2 p3 p4 l2 g2 l3 g3 l4 g4 HFT HIX HSN HAL
          have HBL := Go.Lib.hid (bindsOf_len HFT.out)
          generalize hse : params ++ (t.take i).flatMap bindsOf = seen at hnd htw hln HAL
          have HSE := Go.Lib.hid hse
          clear hse
          obtain ⟨ga, hga⟩ : ∃ ga : Nat, ga = gk := ⟨_, rfl⟩
          subst hga
          have HBX := Go.Lib.hid (below_alloc (below_alloc (Below.refl wo.heap.size wo) (.cells #[.int .i64 x.f0, .int .i64 x.f1, .slice A2 x.f2.length c2, .slice A3 x.f3.length c3, .slice A4 x.f4.length c4] 28)) (.cells #[.int .i64 x.f0, .int .i64 0, .slice A2 x.f2.length c2, .slice none 0 0, .slice A4 x.f4.length c4] 95))
          have HTX := Go.Lib.hid (htw.out.lift HBX.out)
          have HCA := Go.Lib.hid (binders_calls x HFT.out (wo.heap.size + 1) 0 (.slice none 0 0) A2 A4 c2 c4 _ (show Tb ((wo.alloc (.cells #[.int .i64 x.f0, .int .i64 x.f1, .slice A2 x.f2.length c2, .slice A3 x.f3.length c3, .slice A4 x.f4.length c4] 28)).alloc (.cells #[.int .i64 x.f0, .int .i64 0, .slice A2 x.f2.length c2, .slice none 0 0, .slice A4 x.f4.length c4] 95)) (wo.heap.size + 1) x.f0 0 (.slice A2 x.f2.length c2) (.slice none 0 0) (.slice A4 x.f4.length c4) from heap_alloc2_new wo _ _) (Kd.C_below g2 HTX.out.b) (Kd.C_below g4 HTX.out.b))
          clear hlt l2 g2 l3 g3 l4 g4 htw
          go_wp2_with fail
          refine HCA.out.mono ?_
          rintro e w3 ⟨A5, c5, rfl, hc5, g5, hb3⟩
          have HT3 := Go.Lib.hid (HTX.out.lift hb3)
          have HG5 := Go.Lib.hid g5
          clear hb3 g5 hc5 HCA HTX HBX p0 p1 p2 p3 p4
          generalize bindsOf x = bs at HIX HSN HAL HBL HG5
          have hb9 : (bs.length : Int) ≤ 65552 := by have := HBL.out; omega
          go_wp2_with fail
          go_loopg [52] bs.length (fun g_ v52 w' => ∃ j : Nat, Hid (j + g_ = bs.length) ∧ v52 = .int .i64 j ∧ Hid ((seen ++ bs.take j).Nodup) ∧ Hid (Tw w w' (seen ++ bs.take j)) ∧ Hid (Kd.C (Kd.int .i64) w' A5 bs.length bs))
          case atStart => exact ⟨0, Go.Lib.hid (by omega), rfl, Go.Lib.hid (by simpa using hnd.out), Go.Lib.hid (by simpa using HT3.out), HG5⟩
          case round =>
            clear HG5 HT3 hnd
            obtain ⟨j, hj, rfl, hnd, htw, hg5⟩ := hrel
            obtain ⟨wi, hwi⟩ : ∃ wi : World, wi = wr := ⟨_, rfl⟩
            subst hwi
            by_cases hlt : j < bs.length
            · have hlt'' : (j : Int) < (bs.length : Int) := by omega
              have hj0 : (0 : Int) ≤ (j : Int) := by omega
              have HJ := Go.Lib.hid hlt
              obtain ⟨ad5, e_, p0⟩ := Kd.at_int hg5.out (j : Int) hj0 hlt''
              subst e_
              rw [rd_nat bs j hlt, Int.toNat_natCast] at p0
              have HTK := Go.Lib.hid (List.take_succ_eq_append_getElem hlt)
              have HZ := Go.Lib.hid (HIX.out _ (List.getElem_mem hlt))
              have HALJ := Go.Lib.hid (show allB params t = (seen ++ bs.take j) ++ (bs[j]'hlt) :: (bs.drop (j + 1) ++ (t.drop (i + 1)).flatMap bindsOf) by
                have e := (List.take_append_drop j bs).symm
                rw [List.drop_eq_getElem_cons hlt] at e
                rw [HAL.out]
                conv => lhs; rw [e]
                simp only [List.append_assoc, List.cons_append])
              generalize bs[j]'hlt = z at p0 HTK HZ HALJ
              have HLL := Go.Lib.hid (show (seen ++ bs.take j).length < maxLen by rw [List.length_append, List.length_take]; have h1 := hln.out; have h2 := HI.out; unfold maxLen; omega)
              have HTB := Go.Lib.hid (htw.out.lift (below_alloc (Below.refl _ _) (.cells #[] 134)))
              have HG6 := Go.Lib.hid (Kd.C_below hg5.out (below_alloc (Below.refl _ _) (.cells #[] 134)))
              clear hlt hg5
              by_cases hz : z ∈ seen ++ bs.take j
              · have HV := Go.Lib.hid (TwP.mk (w := w) (dup_hit HALJ.out hz) HTB.out.b)
                have HZM := Go.Lib.hid hz
                clear hz
                go_wp2_with (first | (at_lookup; refine wp_has _ rfl _ _ rfl w.heap.size _ _ rfl htw.out.s z rfl (idz_wf HZ.out) ?_; intro bb hbb; obtain rfl : bb = true := hbb.2 HZM.out; clear hbb) | fail)
                go_ret
                exact HV.out
              · have HZM := Go.Lib.hid hz
                clear hz
                go_wp2_with (first | (at_lookup; refine wp_has _ rfl _ _ rfl w.heap.size _ _ rfl htw.out.s z rfl (idz_wf HZ.out) ?_; intro bb hbb; obtain rfl := bool_false hbb HZM.out; clear hbb) | (at_mapUpdate; refine wp_add _ rfl _ _ _ rfl w.heap.size _ _ rfl HTB.out.s HLL.out z rfl (idz_wf HZ.out) rfl ?_; intro w5 hs5 hg5; have HG7 := Go.Lib.hid (C_stay HG6.out (HTB.out.s.stay hg5)); have HT5 := Go.Lib.hid (HTB.out.add hs5 hg5); clear hs5 hg5) | fail)
                go_roundg (gk - 1)
                case measure => have := hj.out; have := HJ.out; omega
                case rel => exact ⟨j + 1, Go.Lib.hid (by have := hj.out; have := HJ.out; omega), by go_num, Go.Lib.hid (by rw [HTK.out, ← List.append_assoc]; exact nodup_snoc hnd.out HZM.out), Go.Lib.hid (by rw [HTK.out, ← List.append_assoc]; exact HT5.out), HG7⟩
            · have hd : decide ((j : Int) < (bs.length : Int)) = false := decide_eq_false (by omega)
              have hd2 : decide (j < bs.length) = false := decide_eq_false hlt
              have HN2 := Go.Lib.hid (show (seen ++ bs).Nodup by have h := hnd.out; rw [List.take_of_length_le (by omega)] at h; exact h)
              have HT2 := Go.Lib.hid (show Tw w wi (seen ++ bs) by have h := htw.out; rw [List.take_of_length_le (by omega)] at h; exact h)
              clear hlt hnd htw hj hg5
              go_wp2_with fail
              go_roundg (ga - 1)
              case measure => have := hi.out; have := HI.out; omega
              case rel => exact ⟨i + 1, Go.Lib.hid (by have := hi.out; have := HI.out; omega), by go_num, Go.Lib.hid (by rw [HSN.out, ← List.append_assoc, HSE.out]; exact HN2.out), Go.Lib.hid (by rw [HSN.out, ← List.append_assoc, HSE.out]; exact HT2.out), Go.Lib.hid (by rw [HSN.out, ← List.append_assoc, HSE.out, List.length_append]; have := hln.out; have := HBL.out; omega)⟩
        · have hd : decide ((i : Int) < (t.length : Int)) = false := decide_eq_false (by omega)
          have hd2 : decide (i < t.length) = false := decide_eq_false hlt
          have HV := Go.Lib.hid (TwP.mk (w := w) (dup_no (show (allB params t).Nodup by have h := hnd.out; rw [List.take_of_length_le (by omega)] at h; exact h)) htw.out.b)
          clear hlt hnd htw hi hln
          go_wp2_with fail
          go_ret
          exact HV.out
end Go.Proofs.YtjhinklijopobaaDoor.Co
namespace Go.Proofs.YtjhinklijopobaaDoor.Co
open Go.RowKit Go.Proofs.YtjhinklijopobaaDoor.PCoreChecks Go.Proofs.YtjhinklijopobaaDoorW.PrintWords Go.Proofs.YtjhinklijopobaaDoorW.PrintLast Go.Proofs.YtjhinklijopobaaDoorW.PrintMore
set_option linter.unusedVariables false
set_option linter.unusedSimpArgs false

/-! ### slices.Clone of numbers -/
def CloP (l : List Int) (w : World) (e : Ending) (w' : World) : Prop := ∃ v, e = .returned v ∧ Kd.R (Kd.int .i64) 3 w' w.heap.size (fun _ => True) v l ∧ Below w.heap.size w w'
theorem CloP.mk {l : List Int} {w w' : World} {v : Value} (ho : w'.ownsRow w.heap.size 3 1 v l.length (encs (Value.int .i64) l)) (hb : Below w.heap.size w w') : CloP l w (.returned v) w' := ⟨v, rfl, Kd.R_of_own ho (fun _ _ => trivial), hb⟩
set_option maxHeartbeats 4000000 in
set_option maxRecDepth 100000 in
theorem clone_calls (l : List Int) (A : Option Addr) (c : Nat) (w : World) (hC : Kd.C (Kd.int .i64) w A l.length l) (hl : l.length ≤ 17592186044416) :
    Calls Tryd.prog 83 #[.slice A l.length c] w (CloP l w) := by
  have hq : ∀ (W : World) (B : Option Addr) (n c n' c' : Nat), (binOp .eql 25 (.slice B n c) (.slice none n' c')).run Tryd.prog W = .ok (.bool B.isNone) W := fun W B n c n' c' => Lib.run_eql_slice_nil W _ _ B n c n' c' Tryd.underlying25
  cases A with
  | none =>
    have hl0 : l = [] := by
      rcases Nat.eq_zero_or_pos l.length with h | h
      · exact List.eq_nil_of_length_eq_zero h
      · obtain ⟨ad, e, _⟩ := hC.2.2 h
        cases e
    subst hl0
    have HV := Go.Lib.hid (CloP.mk (l := []) (own_nil w w.heap.size 3 1) (Below.refl _ _))
    clear hC hl
    go_enter Tryd.func83, Tryd.ntmps83
    go_wp2_with fail
    go_ret
    exact HV.out
  | some ad =>
    have HRD := Go.Lib.hid (Kd.reads_of_C (d := (0 : Int)) (Kd.C_below hC (below_alloc (Below.refl w.heap.size w) (.cells #[] 3))))
    have HO := Go.Lib.hid (show (w.alloc (.cells #[] 3)).ownsRow w.heap.size 3 1 (.slice (some ⟨w.heap.size, 0, none⟩) 0 0) ([] : List Int).length (encs (Value.int .i64) []) from own_lit w w.heap.size 3 .i64 [] (Nat.le_refl _) (by simp))
    have HB := Go.Lib.hid (below_alloc (Below.refl w.heap.size w) (.cells #[] 3))
    have HL := Go.Lib.hid hl
    clear hC hl
    go_enter Tryd.func83, Tryd.ntmps83
    go_wp2_with ((with_reducible refine gate_builtin (b := .append) (xs := #[.tmp 5, .tmp 6]) rfl ?_); at_builtin; refine print_append_row_of (w0 := w) (Value.int .i64) (0 : Int) w.heap.size rfl (.tmp 5) (.tmp 6) 25 3 (.int .i64 0) 8 rfl Tryd.underlying25 info3 rfl (by decide) (fun _ => rfl) (.slice (some ⟨w.heap.size, 0, none⟩) 0 0) [] l (some ad) l.length c rfl rfl ?q1 ?q2 ?q3 ?q4 ?q5 ?_; (case q1 => exact HO.out); (case q2 => exact HRD.out); (case q3 => exact HB.out); (case q4 => exact HB.out.size); (case q5 => have q1_ := HL.out; simp; omega); intro v1 w9 ho9 hb9 hg9 hat9; have HV := Go.Lib.hid (CloP.mk (l := l) ho9 hb9); clear ho9 hb9 hg9 hat9)
    go_ret
    exact HV.out
end Go.Proofs.YtjhinklijopobaaDoor.Co
namespace Go.Proofs.YtjhinklijopobaaDoor.Co
open Go.RowKit Go.Proofs.YtjhinklijopobaaDoor.PCoreChecks Go.Proofs.YtjhinklijopobaaDoorW.PrintWords Go.Proofs.YtjhinklijopobaaDoorW.PrintLast Go.Proofs.YtjhinklijopobaaDoorW.PrintMore
set_option linter.unusedVariables false
set_option linter.unusedSimpArgs false

/-! ### A tree in the heap -/
/-- The pointer to a block. -/
abbrev ptrV (b : Nat) : Value := .pointer (some ⟨b, 0, none⟩)
def kp : Kd Nat := Kd.scalar ptrV (fun _ => rfl)
theorem info66 : (Tryd.prog.info? 66).map (fun i => (i.zero, i.size, i.bytes)) = some (some (.pointer none), 1, 8) := by kernel_rfl
theorem info86 : (Tryd.prog.info? 86).map (fun i => (i.zero, i.size, i.bytes)) = some (some (.agg #[.int .i64 0, .slice none 0 0]), 2, 32) := by kernel_rfl
theorem e86 : ∀ q, q ∈ 86 :: k86.E → q = 86 ∨ q = 3 := fun q hq => by
  have : (86 :: k86.E : List Nat) = [86, 3] := rfl
  rw [this] at hq
  simpa using hq
/-- A node while it is being built; what is older than w1 stays as it was. -/
structure Bu (w1 : World) (b : Nat) (op n : Int) (v2 v3 v4 : Value) (bs : List Int) (kb : List Nat) (al : List S86) (W : World) : Prop where
  bl : Below w1.heap.size w1 W
  tb : Tb W b op n v2 v3 v4
  lo : w1.heap.size ≤ b
  r2 : Kd.R (Kd.int .i64) 3 W w1.heap.size (fun _ => True) v2 bs
  r3 : Kd.R kp 66 W w1.heap.size (fun _ => True) v3 kb
  r4 : Kd.R k86 86 W w1.heap.size (fun _ => True) v4 al
theorem Bu.lift {w1 W W' : World} {b : Nat} {op n : Int} {v2 v3 v4 : Value} {bs : List Int} {kb : List Nat} {al : List S86} (h : Bu w1 b op n v2 v3 v4 bs kb al W) (hb : Below W.heap.size W W') : Bu w1 b op n v2 v3 v4 bs kb al W' :=
  ⟨below_step h.bl hb, h.tb.below hb, h.lo, Kd.R_below h.r2 hb, Kd.R_below h.r3 hb, Kd.R_below h.r4 hb⟩
theorem Bu.kid {w1 W W' : World} {b : Nat} {op n : Int} {v2 v3 v4 v3' : Value} {bs : List Int} {kb : List Nat} {al : List S86} {p : Nat} (h : Bu w1 b op n v2 v3 v4 bs kb al W) (hr : Kd.R kp 66 W' w1.heap.size (fun _ => True) v3' (kb ++ [p])) (hb : Below w1.heap.size w1 W') (hg : W.grownBy W' v3.ownBlock) :
    Bu w1 b op n v2 v3' v4 bs (kb ++ [p]) al (W'.setCell ⟨b, 3, none⟩ v3') := by
  have htb : Tb W' b op n v2 v3 v4 := blk_grown h.tb hg (Kd.R_ne h.r3 h.tb (by decide))
  refine ⟨below_set hb h.lo, blk_put htb 3 _ rfl, h.lo, ?_, ?_, ?_⟩
  · exact Kd.R_set (Kd.R_over h.r2 h.r3 (fun q hq => by rw [List.mem_singleton.1 hq]; decide) hg) htb (fun q hq => by rw [List.mem_singleton.1 hq]; decide) 3 _
  · exact Kd.R_set hr htb (fun q hq => by rw [List.mem_singleton.1 hq]; decide) 3 _
  · exact Kd.R_set (Kd.R_over h.r4 h.r3 (fun q hq => by rcases e86 q hq with rfl | rfl <;> decide) hg) htb (fun q hq => by rcases e86 q hq with rfl | rfl <;> decide) 3 _
theorem Bu.alt {w1 W W' : World} {b : Nat} {op n : Int} {v2 v3 v4 v4' : Value} {bs : List Int} {kb : List Nat} {al : List S86} {p : S86} (h : Bu w1 b op n v2 v3 v4 bs kb al W) (hr : Kd.R k86 86 W' w1.heap.size (fun _ => True) v4' (al ++ [p])) (hb : Below w1.heap.size w1 W') (hg : W.grownBy W' v4.ownBlock) :
    Bu w1 b op n v2 v3 v4' bs kb (al ++ [p]) (W'.setCell ⟨b, 4, none⟩ v4') := by
  have htb : Tb W' b op n v2 v3 v4 := blk_grown h.tb hg (Kd.R_ne h.r4 h.tb (by decide))
  refine ⟨below_set hb h.lo, blk_put htb 4 _ rfl, h.lo, ?_, ?_, ?_⟩
  · exact Kd.R_set (Kd.R_over h.r2 h.r4 (fun q hq => by rw [List.mem_singleton.1 hq]; decide) hg) htb (fun q hq => by rw [List.mem_singleton.1 hq]; decide) 4 _
  · exact Kd.R_set (Kd.R_over h.r3 h.r4 (fun q hq => by rw [List.mem_singleton.1 hq]; decide) hg) htb (fun q hq => by rw [List.mem_singleton.1 hq]; decide) 4 _
  · exact Kd.R_set hr htb (fun q hq => by rcases e86 q hq with rfl | rfl <;> decide) 4 _

/-- A node that stands, in the blocks from lo to hi. -/
structure Gn (W : World) (lo hi b : Nat) (x : S28) (kb : List Nat) : Prop where
  ge : lo ≤ b
  lt : b < hi
  ex : ∃ v2 v3 v4, Tb W b x.f0 x.f1 v2 v3 v4 ∧ Kd.R (Kd.int .i64) 3 W lo (fun k => k < hi) v2 x.f2 ∧ Kd.R kp 66 W lo (fun k => k < hi) v3 kb ∧ Kd.R k86 86 W lo (fun k => k < hi) v4 x.f4
theorem R_band {α : Type} {d : Kd α} {e lo hi : Nat} {W W' : World} {v : Value} {xs : List α} (h : d.R e W lo (fun k => k < hi) v xs) (hm : ∀ k, lo ≤ k → k < hi → W'.heap[k]? = W.heap[k]?) : d.R e W' lo (fun k => k < hi) v xs :=
  Kd.R_mono (Kd.R_move (Kd.R_bound h) (fun k hk => hm k hk.2.1 hk.1)) (fun _ hk => hk.1)
theorem Gn.move {W W' : World} {lo hi b : Nat} {x : S28} {kb : List Nat} (h : Gn W lo hi b x kb) (hm : ∀ k, lo ≤ k → k < hi → W'.heap[k]? = W.heap[k]?) : Gn W' lo hi b x kb := by
  obtain ⟨h1, h2, v2, v3, v4, ht, h3, h4, h5⟩ := h
  exact ⟨h1, h2, v2, v3, v4, (hm b h1 h2).trans ht, R_band h3 hm, R_band h4 hm, R_band h5 hm⟩
theorem Bu.done {w1 W : World} {b lo : Nat} {x : S28} {v2 v3 v4 : Value} {kb : List Nat} (h : Bu w1 b x.f0 x.f1 v2 v3 v4 x.f2 kb x.f4 W) (hl : lo ≤ w1.heap.size) : Gn W lo W.heap.size b x kb :=
  ⟨Nat.le_trans hl h.lo, blk_lt h.tb, v2, v3, v4, h.tb, Kd.R_lower (Kd.R_mono (Kd.R_bound h.r2) (fun _ hk => hk.2.2.1)) hl, Kd.R_lower (Kd.R_mono (Kd.R_bound h.r3) (fun _ hk => hk.2.2.1)) hl, Kd.R_lower (Kd.R_mono (Kd.R_bound h.r4) (fun _ hk => hk.2.2.1)) hl⟩
/-- The first n nodes of a list stand in the heap: node i at block ps i, in the blocks from lo i to lo (i + 1). -/
structure Fo (base : Nat) (W : World) (t : List S28) (n : Nat) (ps lo : Nat → Nat) : Prop where
  lo0 : base ≤ lo 0
  hi : lo n ≤ W.heap.size
  nd : ∀ i (h : i < t.length), i < n → Gn W (lo i) (lo (i + 1)) (ps i) (t[i]'h) ((t[i]'h).f3.map fun k => ps k.toNat)
theorem Fo.low {base : Nat} {W : World} {t : List S28} {n : Nat} {ps lo : Nat → Nat} (h : Fo base W t n ps lo) (hn : n ≤ t.length) : ∀ i, i ≤ n → base ≤ lo i := by
  intro i
  induction i with
  | zero => intro _; exact h.lo0
  | succ i ih =>
    intro hi
    have h1 := ih (by omega)
    have h2 := h.nd i (by omega) (by omega)
    have := h2.ge; have := h2.lt
    omega
theorem Fo.up {base : Nat} {W : World} {t : List S28} {n : Nat} {ps lo : Nat → Nat} (h : Fo base W t n ps lo) (hn : n ≤ t.length) : ∀ m i, i + m = n → lo i ≤ lo n := by
  intro m
  induction m with
  | zero => intro i hi; rw [show i = n by omega]; exact Nat.le_refl _
  | succ m ih =>
    intro i hi
    have h1 := ih (i + 1) (by omega)
    have h2 := h.nd i (by omega) (by omega)
    have := h2.ge; have := h2.lt
    omega
theorem Fo.move {base : Nat} {W W' : World} {t : List S28} {n : Nat} {ps lo : Nat → Nat} (h : Fo base W t n ps lo) (hn : n ≤ t.length) (hs : W.heap.size ≤ W'.heap.size) (hm : ∀ k, base ≤ k → k < W.heap.size → W'.heap[k]? = W.heap[k]?) : Fo base W' t n ps lo :=
  ⟨h.lo0, Nat.le_trans h.hi hs, fun i hi hin => (h.nd i hi hin).move (fun k h1 h2 => hm k (by have := h.low hn i (by omega); omega) (by have := h.up hn (n - (i + 1)) (i + 1) (by omega); have := h.hi; omega))⟩
theorem Fo.below {base : Nat} {W W' : World} {t : List S28} {n : Nat} {ps lo : Nat → Nat} (h : Fo base W t n ps lo) (hn : n ≤ t.length) (hb : Below W.heap.size W W') : Fo base W' t n ps lo := h.move hn hb.size (fun k _ hk => hb.block k hk)
def fset (f : Nat → Nat) (i v : Nat) : Nat → Nat := fun j => if j = i then v else f j
theorem Fo.next {base : Nat} {w1 W W' : World} {t : List S28} {n : Nat} {ps lo : Nat → Nat} {b : Nat} (h : Fo base w1 t n ps lo) (hn : n < t.length) (hr : rB t = true) (hg : Gn W (lo n) W.heap.size b (t[n]'hn) ((t[n]'hn).f3.map fun k => ps k.toNat)) (hb : Below w1.heap.size w1 W)
    (hs : W'.heap.size = W.heap.size) (hm : ∀ k, base ≤ k → W'.heap[k]? = W.heap[k]?) : Fo base W' t (n + 1) (fset ps n b) (fset lo (n + 1) W'.heap.size) := by
  have h1 := (h.below (by omega) hb)
  have hk : ∀ i (hi : i < t.length), i < n + 1 → (t[i]'hi).f3.map (fun k => fset ps n b k.toNat) = (t[i]'hi).f3.map fun k => ps k.toNat := by
    intro i hi hin
    refine List.map_congr_left fun k hk => ?_
    have := badK_mem (rB_at hr i hi) hk
    unfold fset
    rw [if_neg (by omega)]
  refine ⟨?_, ?_, fun i hi hin => ?_⟩
  · unfold fset; rw [if_neg (by omega)]; exact h.lo0
  · unfold fset; rw [if_pos rfl]; exact Nat.le_refl _
  · rw [hk i hi hin]
    by_cases e : i = n
    · subst e
      have e1 : fset lo (i + 1) W'.heap.size i = lo i := by unfold fset; rw [if_neg (by omega)]
      have e2 : fset lo (i + 1) W'.heap.size (i + 1) = W.heap.size := by unfold fset; rw [if_pos rfl, hs]
      have e3 : fset ps i b i = b := by unfold fset; rw [if_pos rfl]
      rw [e1, e2, e3]
      exact hg.move (fun k h3 h4 => hm k (by have := h.low (by omega) i (Nat.le_refl _); omega))
    · have e1 : fset lo (n + 1) W'.heap.size i = lo i := by unfold fset; rw [if_neg (by omega)]
      have e2 : fset lo (n + 1) W'.heap.size (i + 1) = lo (i + 1) := by unfold fset; rw [if_neg (by omega)]
      have e3 : fset ps n b i = ps i := by unfold fset; rw [if_neg e]
      rw [e1, e2, e3]
      exact (h1.nd i hi (by omega)).move (fun k h3 h4 => hm k (by have := h.low (by omega) i (by omega); omega))
/-- The block of the pointers to the nodes. -/
def NA (W : World) (g n : Nat) (ps : Nat → Nat) (i : Nat) : Prop := W.heap[g]? = some (.cells ((List.range n).map fun j => if j < i then ptrV (ps j) else .pointer none).toArray 66 (0, 0))
theorem NA.cell {W : World} {g n : Nat} {ps : Nat → Nat} {i : Nat} (h : NA W g n ps i) (j : Nat) (hj : j < n) (hi : j < i) : W.cell? ⟨g, j, none⟩ = some (ptrV (ps j)) := by
  rw [blk_cell h]
  simp [hj, hi]
theorem NA.put {W : World} {g n : Nat} {ps : Nat → Nat} {i : Nat} (h : NA W g n ps i) (hi : i < n) (b : Nat) : NA (W.setCell ⟨g, i, none⟩ (ptrV b)) g n (fset ps i b) (i + 1) := by
  refine blk_put h i _ ?_
  rw [List.setIfInBounds_toArray]
  congr 1
  apply List.ext_getElem
  · simp
  · intro j h1 h2
    rw [List.getElem_set]
    simp only [List.getElem_map, List.getElem_range]
    unfold fset
    by_cases e : i = j
    · subst e; simp
    · rw [if_neg e]
      by_cases hj : j < i
      · rw [if_pos hj, if_pos (by omega), if_neg (by omega)]
      · rw [if_neg hj, if_neg (by omega)]
theorem NA.below {W W' : World} {g n : Nat} {ps : Nat → Nat} {i : Nat} (h : NA W g n ps i) (hb : Below W.heap.size W W') : NA W' g n ps i := blk_below h hb
theorem NA.made (W : World) (n : Nat) (ps : Nat → Nat) : NA (W.alloc (.cells (madeCells #[.pointer none] n) 66)) W.heap.size n ps 0 := by
  unfold NA
  rw [blk_new]
  congr 2
  apply Array.ext'
  apply List.ext_getElem
  · simp [madeCells]
  · intro i h1 h2
    simp [madeCells, Nat.mod_one]
end Go.Proofs.YtjhinklijopobaaDoor.Co
namespace Go.Proofs.YtjhinklijopobaaDoor.Co
open Go.RowKit Go.Proofs.YtjhinklijopobaaDoor.PCoreChecks Go.Proofs.YtjhinklijopobaaDoorW.PrintWords Go.Proofs.YtjhinklijopobaaDoorW.PrintLast Go.Proofs.YtjhinklijopobaaDoorW.PrintMore
set_option linter.unusedVariables false
set_option linter.unusedSimpArgs false

/-! ### A tree that is read -/
/-- A node that reads. -/
structure Nr (W : World) (b : Nat) (x : S28) (kb : List Nat) (A2 : Option Addr) (c2 : Nat) (A3 : Option Addr) (c3 : Nat) (A4 : Option Addr) (c4 : Nat) : Prop where
  tb : Tb W b x.f0 x.f1 (.slice A2 x.f2.length c2) (.slice A3 kb.length c3) (.slice A4 x.f4.length c4)
  l2 : x.f2.length ≤ c2
  g2 : Kd.C (Kd.int .i64) W A2 x.f2.length x.f2
  l3 : kb.length ≤ c3
  g3 : Kd.C kp W A3 kb.length kb
  l4 : x.f4.length ≤ c4
  g4 : Kd.C k86 W A4 x.f4.length x.f4
theorem Nr.below {W W' : World} {b : Nat} {x : S28} {kb : List Nat} {A2 A3 A4 : Option Addr} {c2 c3 c4 : Nat} (h : Nr W b x kb A2 c2 A3 c3 A4 c4) (hb : Below W.heap.size W W') : Nr W' b x kb A2 c2 A3 c3 A4 c4 :=
  ⟨h.tb.below hb, h.l2, Kd.C_below h.g2 hb, h.l3, Kd.C_below h.g3 hb, h.l4, Kd.C_below h.g4 hb⟩
theorem Gn.reads {W : World} {lo hi b : Nat} {x : S28} {kb : List Nat} (h : Gn W lo hi b x kb) : ∃ A2 c2 A3 c3 A4 c4, Nr W b x kb A2 c2 A3 c3 A4 c4 := by
  obtain ⟨_, _, v2, v3, v4, ht, h2, h3, h4⟩ := h
  obtain ⟨A2, c2, rfl, l2, g2⟩ := Kd.R_reads h2
  obtain ⟨A3, c3, rfl, l3, g3⟩ := Kd.R_reads h3
  obtain ⟨A4, c4, rfl, l4, g4⟩ := Kd.R_reads h4
  exact ⟨A2, c2, A3, c3, A4, c4, ht, l2, g2, l3, g3, l4, g4⟩
/-- The first n nodes of a list read. -/
def Ft (W : World) (t : List S28) (n : Nat) (ps : Nat → Nat) : Prop := ∀ i (h : i < t.length), i < n → ∃ A2 c2 A3 c3 A4 c4, Nr W (ps i) (t[i]'h) ((t[i]'h).f3.map fun k => ps k.toNat) A2 c2 A3 c3 A4 c4
theorem Fo.reads {base : Nat} {W : World} {t : List S28} {n : Nat} {ps lo : Nat → Nat} (h : Fo base W t n ps lo) : Ft W t n ps := fun i hi hin => (h.nd i hi hin).reads
theorem Ft.below {W W' : World} {t : List S28} {n : Nat} {ps : Nat → Nat} (h : Ft W t n ps) (hb : Below W.heap.size W W') : Ft W' t n ps := fun i hi hin => by
  obtain ⟨A2, c2, A3, c3, A4, c4, hN⟩ := h i hi hin
  exact ⟨A2, c2, A3, c3, A4, c4, hN.below hb⟩
/-- What is known of a node that is right. -/
structure Ok (x : S28) : Prop where
  fit : Fit x
  alts : ¬ (x.f0 = 7 ∨ x.f0 = 13) → x.f4 = []
  kids : x.f0 = 7 ∨ x.f0 = 13 → x.f3.length = x.f4.length + 1
  ids : ∀ z ∈ x.f2, idz z
  aids : ∀ y ∈ x.f4, ∀ z ∈ y.f1, idz z
  var : x.f0 = 0 → idz x.f1
/-! ### Tree.Bound -/
def BdP2 (l : List Int) (w0 w : World) (e : Ending) (w' : World) : Prop := ∃ A c, e = .returned (.slice A l.length c) ∧ Kd.C (Kd.int .i64) w0 A l.length l ∧ w = w'
theorem BdP2.mk {l : List Int} {w0 w : World} {A : Option Addr} {c : Nat} (hC : Kd.C (Kd.int .i64) w0 A l.length l) : BdP2 l w0 w (.returned (.slice A l.length c)) w := ⟨A, c, rfl, hC, rfl⟩
theorem BdP2.nil (w0 w : World) : BdP2 [] w0 w (.returned (.slice none 0 0)) w := ⟨none, 0, rfl, Kd.C_nil _ _, rfl⟩
set_option maxHeartbeats 4000000 in
set_option maxRecDepth 100000 in
theorem bound_calls (x : S28) (hx : Ok x) (k : Nat) (hk : k < x.f3.length) (hk9 : (k : Int) ≤ 4096) (b : Nat) (kb : List Nat) (A2 A3 A4 : Option Addr) (c2 c3 c4 : Nat) (w0 w : World) (hb : Below w0.heap.size w0 w) (h : Nr w0 b x kb A2 c2 A3 c3 A4 c4) :
    Calls Tryd.prog 97 #[ptrV b, .int .i64 (k : Int)] w (BdP2 (scopeOf x k) w0 w) := by
  obtain ⟨op, n, bs, ks, al⟩ := x
  have hal := hx.alts
  have hki := hx.kids
  have ha9 : (al.length : Int) ≤ 4096 := by have := hx.fit.a; simp only at this; omega
  simp only at hal hki hk ⊢
  obtain ⟨t0, t1, t2, t3, t4⟩ := (h.tb.below hb).cells
  have H2 := Go.Lib.hid (BdP2.mk (w := w) (c := c2) h.g2)
  have H0 := Go.Lib.hid (BdP2.nil w0 w)
  have G4 := Go.Lib.hid h.g4
  have HB := Go.Lib.hid hb
  simp only at t0 t2 t4
  clear h hx hb t1 t3
  have hk0 : (0 : Int) ≤ (k : Int) := by omega
  by_cases h2 : op = 2
  · subst h2
    have e : scopeOf ⟨2, n, bs, ks, al⟩ k = bs := rfl
    rw [e]
    clear e hal hki
    go_enter Tryd.func97, Tryd.ntmps97
    go_wp2_with fail
    go_ret
    exact H2.out
  by_cases h5 : op = 5
  · subst h5
    have e : scopeOf ⟨5, n, bs, ks, al⟩ k = bs := rfl
    rw [e]
    clear e hal hki
    go_enter Tryd.func97, Tryd.ntmps97
    go_wp2_with fail
    go_ret
    exact H2.out
  have f2 : (op == 2) = false := beq_eq_false_iff_ne.2 h2
  have f5 : (op == 5) = false := beq_eq_false_iff_ne.2 h5
  by_cases h7 : op = 7 ∨ op = 13
  · have f4 : (op == 4) = false := beq_eq_false_iff_ne.2 (by omega)
    have hkl := hki h7
    have hkx : k ≤ al.length := by omega
    by_cases hk1 : 0 < k
    · have e : scopeOf ⟨op, n, bs, ks, al⟩ k = (rd_T86 al (k - 1 : Nat)).f1 := by
        unfold scopeOf
        rw [if_neg (by simp only; omega), if_pos ⟨h7, hk1⟩]
      rw [e]
      have d0 : decide ((0 : Int) < (al.length : Int)) = true := decide_eq_true (by omega)
      have d0' : decide (0 < al.length) = true := decide_eq_true (by omega)
      have d1 : decide ((0 : Int) < (k : Int)) = true := decide_eq_true (by omega)
      have d1' : decide (0 < k) = true := decide_eq_true hk1
      have d2 : decide ((k : Int) ≤ (al.length : Int)) = true := decide_eq_true (by omega)
      have d2' : decide (k ≤ al.length) = true := decide_eq_true hkx
      have hi0 : (0 : Int) ≤ (k : Int) - 1 := by omega
      have hi1 : (k : Int) - 1 < (al.length : Int) := by omega
      have hi2 : (1 : Int) ≤ (k : Int) := by omega
      have hin : ((k : Int) - 1).toNat = k - 1 := by omega
      obtain ⟨ad, A1, c1, e_, p0, p1, q1, q2⟩ := at_T86 G4.out ((k : Int) - 1) hi0 hi1
      cases e_
      have e3 : (k : Int) - 1 = ((k - 1 : Nat) : Int) := by omega
      rw [hin] at p0 p1
      rw [e3] at p0 p1 q1 q2
      replace p1 := pw_cell_below HB.out p1
      generalize rd_T86 al ((k - 1 : Nat) : Int) = a at p0 p1 q1 q2
      have HV := Go.Lib.hid (BdP2.mk (w := w) (c := c1) q2)
      clear e e3 hkl hal hki h7 q1 q2 p0 h2 h5
      go_enter Tryd.func97, Tryd.ntmps97
      go_wp2_with fail
      go_ret
      exact HV.out
    · have e : scopeOf ⟨op, n, bs, ks, al⟩ k = [] := by
        unfold scopeOf
        rw [if_neg (by simp only; omega), if_neg (by omega)]
      rw [e]
      have d1 : decide ((0 : Int) < (k : Int)) = false := decide_eq_false (by omega)
      have d1' : decide (0 < k) = false := decide_eq_false hk1
      clear e hkl hal hki h7 h2 h5
      go_enter Tryd.func97, Tryd.ntmps97
      go_wp2_with fail
      all_goals
        go_ret
        exact H0.out
  · have hal0 := hal h7
    subst hal0
    by_cases h4 : op = 4 ∧ k = 1
    · obtain ⟨rfl, rfl⟩ := h4
      have e : scopeOf ⟨4, n, bs, ks, []⟩ 1 = bs := rfl
      rw [e]
      clear e hal hki h7
      go_enter Tryd.func97, Tryd.ntmps97
      go_wp2_with fail
      go_ret
      exact H2.out
    · have e : scopeOf ⟨op, n, bs, ks, []⟩ k = [] := by
        unfold scopeOf
        rw [if_neg (by simp only; omega), if_neg (by simp only; omega)]
      rw [e]
      have hc : (op == 4) = false ∨ ((op == 4) = true ∧ ((k : Int) == 1) = false) := by
        by_cases h : op = 4
        · exact Or.inr ⟨beq_iff_eq.2 h, beq_eq_false_iff_ne.2 (by omega)⟩
        · exact Or.inl (beq_eq_false_iff_ne.2 h)
      clear e hal hki h7 h4 h2 h5
      rcases hc with f4 | ⟨f4, f1⟩
      · go_enter Tryd.func97, Tryd.ntmps97
        go_wp2_with fail
        go_ret
        exact H0.out
      · have f1' : (k == 1) = false := by
          have := beq_eq_false_iff_ne.1 f1
          exact beq_eq_false_iff_ne.2 (by omega)
        go_enter Tryd.func97, Tryd.ntmps97
        go_wp2_with fail
        go_ret
        exact H0.out
end Go.Proofs.YtjhinklijopobaaDoor.Co
namespace Go.Proofs.YtjhinklijopobaaDoor.Co
open Go.RowKit Go.Proofs.YtjhinklijopobaaDoor.PCoreChecks Go.Proofs.YtjhinklijopobaaDoorW.PrintWords Go.Proofs.YtjhinklijopobaaDoorW.PrintLast Go.Proofs.YtjhinklijopobaaDoorW.PrintMore
set_option linter.unusedVariables false
set_option linter.unusedSimpArgs false

/-! ### core.free -/
/-- The counts with a row added. -/
def addC (f : Int → Int) (l : List Int) : Int → Int := fun z => f z + ((l.count z : Nat) : Int)
theorem addC_nil (f : Int → Int) (z : Int) : addC f [] z = f z := by simp [addC]
theorem addC_up (f : Int → Int) (l : List Int) (j : Nat) (hj : j < l.length) (z : Int) : upd (addC f (l.take j)) (l[j]'hj) (addC f (l.take j) (l[j]'hj) + 1) z = addC f (l.take (j + 1)) z := by
  unfold upd addC
  rw [List.take_succ_eq_append_getElem hj]
  by_cases e : z = l[j]'hj
  · rw [if_pos e, ← e, List.count_append, List.count_singleton]; simp; omega
  · rw [if_neg e, List.count_append, List.count_singleton]
    have : ¬ ((l[j]'hj) == z) = true := by simp; exact fun h => e h.symm
    rw [if_neg this]; simp
theorem addC_down (f : Int → Int) (l : List Int) (j : Nat) (hj : j < l.length) (z : Int) : upd (addC f (l.drop j)) (l[j]'hj) (addC f (l.drop j) (l[j]'hj) - 1) z = addC f (l.drop (j + 1)) z := by
  unfold upd addC
  have e0 : l.drop j = (l[j]'hj) :: l.drop (j + 1) := List.drop_eq_getElem_cons hj
  rw [e0]
  by_cases e : z = l[j]'hj
  · rw [if_pos e, ← e, List.count_cons_self]; omega
  · rw [if_neg e, List.count_cons_of_ne (fun h => e h.symm)]
theorem addC_bound {f : Int → Int} {B : Int} (h : ∀ z, 0 ≤ f z ∧ f z ≤ B) {l : List Int} (hl : l.length ≤ 16) (z : Int) : 0 ≤ addC f l z ∧ addC f l z ≤ B + 16 := by
  have h1 := h z
  have h2 := List.count_le_length (l := l) (a := z)
  unfold addC; omega
theorem addC_zero {f : Int → Int} (h : ∀ z, 0 ≤ f z) (l : List Int) (z : Int) : addC f l z = 0 ↔ z ∉ l ∧ f z = 0 := by
  have h1 := h z
  unfold addC
  constructor
  · intro h2
    have h3 : l.count z = 0 := by omega
    exact ⟨List.count_eq_zero.1 h3, by omega⟩
  · rintro ⟨h2, h3⟩
    rw [List.count_eq_zero.2 h2, h3]; rfl
/-- What the first k kids of node i add. -/
def FK (t : List S28) (i k : Nat) (z : Int) : Prop := ∃ (h : i < t.length) (k' : Nat) (hk : k' < (t[i]'h).f3.length) (c : Nat), k' < k ∧ (t[i]'h).f3[k']'hk = (c : Int) ∧ z ∉ scopeOf (t[i]'h) k' ∧ Fv t c z
theorem FK.zero {t : List S28} {i : Nat} {z : Int} : ¬ FK t i 0 z := by rintro ⟨_, k', _, c, h, _⟩; omega
theorem FK.succ {t : List S28} {i : Nat} (h : i < t.length) {k : Nat} (hk : k < (t[i]'h).f3.length) {c : Nat} (hc : (t[i]'h).f3[k]'hk = (c : Int)) {z : Int} : FK t i (k + 1) z ↔ FK t i k z ∨ (z ∉ scopeOf (t[i]'h) k ∧ Fv t c z) := by
  constructor
  · rintro ⟨h1, k', hk', c', h2, h3, h4, h5⟩
    by_cases e : k' = k
    · subst e
      rw [hc] at h3
      have : c = c' := by omega
      subst this
      exact Or.inr ⟨h4, h5⟩
    · exact Or.inl ⟨h1, k', hk', c', by omega, h3, h4, h5⟩
  · rintro (⟨h1, k', hk', c', h2, h3, h4, h5⟩ | ⟨h4, h5⟩)
    · exact ⟨h1, k', hk', c', by omega, h3, h4, h5⟩
    · exact ⟨h, k, hk, c, by omega, hc, h4, h5⟩
theorem Fv_iff {t : List S28} {i : Nat} (h : i < t.length) {z : Int} : Fv t i z ↔ ((t[i]'h).f0 = 0 ∧ z = (t[i]'h).f1) ∨ FK t i (t[i]'h).f3.length z := by
  constructor
  · intro hf
    cases hf with
    | var _ _ h0 => exact Or.inl ⟨h0, rfl⟩
    | kid _ _ k hk c _ hc hn hf => exact Or.inr ⟨h, k, hk, c, hk, hc, hn, hf⟩
  · rintro (⟨h0, rfl⟩ | ⟨h1, k, hk, c, _, hc, hn, hf⟩)
    · exact Fv.var i h h0
    · exact Fv.kid i h k hk c z hc hn hf
theorem scope_len {x : S28} (h : Fit x) (k : Nat) : (scopeOf x k).length ≤ 16 := by
  unfold scopeOf
  split
  · exact h.b
  · split
    · unfold rd_T86
      rw [List.getD_eq_getElem?_getD]
      cases e : x.f4[(((k - 1 : Nat) : Int)).toNat]? with
      | none => simp [z86]
      | some y => exact h.ab y (List.mem_of_getElem? e)
    · simp
theorem scope_ids {x : S28} (h : Ok x) (k : Nat) : ∀ z ∈ scopeOf x k, idz z := by
  intro z hz
  unfold scopeOf at hz
  split at hz
  · exact h.ids z hz
  · split at hz
    · unfold rd_T86 at hz
      rw [List.getD_eq_getElem?_getD] at hz
      cases e : x.f4[(((k - 1 : Nat) : Int)).toNat]? with
      | none => rw [e] at hz; simp [z86] at hz
      | some y => rw [e] at hz; exact h.aids y (List.mem_of_getElem? e) z hz
    · simp at hz
/-- The state of the two maps. -/
structure Fs (w0 W : World) (mb ob : Nat) (f : Int → Int) (S : Int → Prop) : Prop where
  bl : Below w0.heap.size w0 W
  m : Mi W mb f
  s : So W ob S
theorem Fs.congr {w0 W : World} {mb ob : Nat} {f g : Int → Int} {S T : Int → Prop} (h : Fs w0 W mb ob f S) (hf : ∀ z, f z = g z) (hs : ∀ z, S z ↔ T z) : Fs w0 W mb ob g T := ⟨h.bl, h.m.congr hf, h.s.congr hs⟩
theorem Fs.setm {w0 W W' : World} {mb ob : Nat} {f g : Int → Int} {S : Int → Prop} (h : Fs w0 W mb ob f S) (hne : mb ≠ ob) (hm : w0.heap.size ≤ mb) (h1 : Mi W' mb g) (hg : W.grownBy W' (some mb)) : Fs w0 W' mb ob g S :=
  ⟨h.bl.grown hg h.bl.size (fun k hk => by cases hk; exact hm), h1, h.s.kept hg (by simp; exact fun e => hne e.symm)⟩
theorem Fs.sets {w0 W W' : World} {mb ob : Nat} {f : Int → Int} {S T : Int → Prop} (h : Fs w0 W mb ob f S) (hne : mb ≠ ob) (ho : w0.heap.size ≤ ob) (h1 : So W' ob T) (hg : W.grownBy W' (some ob)) : Fs w0 W' mb ob f T :=
  ⟨h.bl.grown hg h.bl.size (fun k hk => by cases hk; exact ho), h.m.kept hg (by simp; exact hne), h1⟩
def FrP (w0 : World) (t : List S28) (i : Nat) (mb ob : Nat) (f : Int → Int) (S : Int → Prop) (e : Ending) (w' : World) : Prop := e = .returned (.tuple #[]) ∧ Fs w0 w' mb ob f (fun z => S z ∨ (Fv t i z ∧ f z = 0))
end Go.Proofs.YtjhinklijopobaaDoor.Co
