import Derived.Test.YthblhnljnpjdmaaTm
import Derived.Deep.RegionHeld3
import Derived.Test.YthblhnljnpjdmaaWInvWords
namespace Go.Proofs.Ythblhnljnpjdmaa.Ty
open Go.RowKit Go.Proofs.Ythblhnljnpjdmaa.PUnifyMakes Go.Proofs.YthblhnljnpjdmaaW.PrintWords Go.Proofs.YthblhnljnpjdmaaW.PrintLast Go.Proofs.YthblhnljnpjdmaaW.PrintMore
set_option linter.unusedVariables false
section
variable {P : Program} {ops : Array Oper} {Q : Exit → Act → World → Prop} {w : World}
/-- A call of a function value out of a slot. -/
theorem goesV_ {oi : Oper} {N : Option Tmp} {a : Act} {K : Act → World → Prop} {f : FuncId} {fn : Func} {t : Tmp} {ars : Array Operand} {ts : Array TypeId} (hf : P.funcs[f]? = some fn) (hname : (fn.name == "runtime.NumGoroutine") = false) (hb : fn.body.isSome = true) (args : Array Value)
    (hw : Region.wanted oi (yielded ops a.tmps) = true) (hN : oi.dst = N) (hop : oi.op = .call { callee := .value (.tmp t), args := ars, argTypes := ts }) (hev : a.tmps[t]? = some (.func (.func f) #[] #[])) (hargs : ars.map a.eval = args)
    (h : Calls P f args w fun e w' => ∃ v, e = .returned v ∧ K (a.put N v) w') : if Region.wanted oi (yielded ops a.tmps) = true then Oper.wp P oi a w K Q else K (a.put N undef) w := by
  refine call_ f args hw hN ?_ h
  have he := enters_ hf hname hb args w
  have hv : a.eval (.tmp t) = .func (.func f) #[] #[] := eval_of hev
  unfold execOp
  simp [hop, resolve, Deferred.ofValue, invoke, hv, hargs, he]
/-- An append of some elements to a row of one's own. -/
theorem app_ {oi : Oper} {N : Option Tmp} {a : Act} {K : Act → World → Prop} (hw : Region.wanted oi (yielded ops a.tmps) = true) (hN : oi.dst = N) (s x : Operand) (t : TypeId)
    (ho : oi.op = .call { callee := .builtin .append, args := #[s, x], argTypes := #[t, t] })
    (base : Nat) (e : TypeId) (z : Value) (size bytes : Nat) (ht : P.underlying t = some (.slice e)) (hinfo : (P.info? e).map (fun i => (i.zero, i.size, i.bytes)) = some (some z, size, bytes)) (hzs : z.cells.size = size) (hsz : 0 < size)
    (v : Value) (n : Nat) (xs : List Value) (hs : a.eval s = v) (hown : w.ownsRow base e size v n xs)
    (ad : Addr) (m c : Nat) (news : List Value) (hx : a.eval x = .slice (some ad) m c) (hl : news.length = m * size) (hnews : ∀ j u, news[j]? = some u → w.cell? (ad.add j) = some u) (h1 : ∀ u ∈ news, u.oneCell' = true)
    (h63 : n + m ≤ maxLen) (hbytes : (n + m) * bytes ≤ 140737488355328) (hbase : base ≤ w.heap.size)
    (h : ∀ v' w', w'.ownsRow base e size v' (n + m) (xs ++ news) → w.grownBy w' v.ownBlock → K (a.put N v') w') :
    if Region.wanted oi (yielded ops a.tmps) = true then Oper.wp P oi a w K Q else K (a.put N undef) w := by
  obtain ⟨i0, hi, hzz⟩ := Option.map_eq_some_iff.1 hinfo
  simp only [Prod.mk.injEq] at hzz
  obtain ⟨hz0, hz1, hz2⟩ := hzz
  obtain ⟨v', w', hr, h2, h3, h4, h5⟩ := run_append_own_at (P := P) w base t oi.type e i0 z size bytes ht hi hz0 hz1 hz2 hzs hsz v n xs hown ad m c news hl hnews h1 h63 hbytes hbase
  rw [if_pos hw]
  subst hN
  unfold Oper.wp execOp
  simp only [ho, resolve, invoke, builtin, Sem.run_bind, Sem.run_pure, Result.andThen_ok, List.map_toArray, List.map_cons, List.map_nil, hs, hx, hr]
  exact h v' w' h2 h3
end
/-- The cells of a type without arguments. -/
def el (e : S24) : List Value := [.int .i64 e.f0, .string e.f1, .int .i64 e.f2, .slice none 0 0]
theorem one_el (e : S24) : ∀ u ∈ el e, u.oneCell' = true := by
  intro u hu
  simp only [el, List.mem_cons, List.not_mem_nil, or_false] at hu
  rcases hu with rfl | rfl | rfl | rfl <;> rfl
theorem flat_length : ∀ l : List S24, (l.flatMap el).length = l.length * 4
  | [] => rfl
  | e :: l => by rw [List.flatMap_cons, List.length_append, flat_length l, List.length_cons]; simp [el]; omega
theorem flat_get : ∀ (l : List S24) (j : Nat) (p : S24) (i : Nat), l[j]? = some p → i < 4 → (l.flatMap el)[j * 4 + i]? = (el p)[i]?
  | [], _, _, _, h, _ => by cases h
  | e :: l, 0, p, i, h, hi => by
    obtain rfl : e = p := by simpa using h
    rw [List.flatMap_cons, List.getElem?_append_left (by simp [el]; omega)]
    simp
  | e :: l, j + 1, p, i, h, hi => by
    rw [List.flatMap_cons, List.getElem?_append_right (by simp [el]; omega)]
    have : (j + 1) * 4 + i - (el e).length = j * 4 + i := by simp [el]; omega
    rw [this]
    exact flat_get l j p i (by simpa using h) hi
theorem own_CT {W : World} {B : Nat} {A : Option Addr} {c n : Nat} {l : List S24} (h : W.ownsRow B 24 4 (.slice A n c) n (l.flatMap el)) (hn : n = l.length) (hf : ∀ e ∈ l, e.f3 = []) (hl : l.length < 1000) : k24.C W A l.length l := by
  subst hn
  refine ⟨rfl, by omega, fun hpos => ?_⟩
  rcases h.2 with ⟨_, h0⟩ | ⟨g, cap, cur, e0, _, _, _⟩
  · omega
  · injection e0 with e1 _ e3
    subst e1 e3
    refine ⟨_, rfl, fun j p hj => ⟨el p, ?_, ?_, fun i u hu => ?_⟩⟩
    · rfl
    · have hp := hf p (List.mem_of_getElem? hj)
      have := k24_mk W p (A3 := none) (c3 := 0) (by rw [hp]; exact Nat.le_refl _) (by rw [hp]; exact Kd.C_nil _ _)
      rw [hp] at this
      exact this
    · have hi : i < 4 := by have := (List.getElem?_eq_some_iff.1 hu).1; simpa [el] using this
      have h2 := h.cells (g := g) rfl (j * 4 + i) u (by rw [flat_get l j p i hj hi]; exact hu)
      exact h2
/-- A type out of two that lie in the world. -/
theorem pair_C {W : World} {g : Nat} {x y : S24} {A B : Option Addr} {a b : Nat} (h : W.heap[g]? = some (ob2 x y A B a b)) (ha : x.f3.length ≤ a) (hb : y.f3.length ≤ b) (hA : k24.C W A x.f3.length x.f3) (hB : k24.C W B y.f3.length y.f3) : k24.C W (some ⟨g, 0, none⟩) 2 [x, y] := by
  refine ⟨rfl, by omega, fun _ => ⟨_, rfl, fun j p hj => ?_⟩⟩
  match j, hj with
  | 0, hj =>
    obtain rfl : x = p := by simpa using hj
    refine ⟨_, rfl, k24_mk W x ha hA, fun i u hu => ?_⟩
    have hi : i < 4 := by have := (List.getElem?_eq_some_iff.1 hu).1; simpa using this
    rw [add_plain, blk_cell h]
    match i, hi, hu with
    | 0, _, hu => exact hu
    | 1, _, hu => exact hu
    | 2, _, hu => exact hu
    | 3, _, hu => exact hu
  | 1, hj =>
    obtain rfl : y = p := by simpa using hj
    refine ⟨_, rfl, k24_mk W y hb hB, fun i u hu => ?_⟩
    have hi : i < 4 := by have := (List.getElem?_eq_some_iff.1 hu).1; simpa using this
    rw [add_plain, blk_cell h]
    match i, hi, hu with
    | 0, _, hu => exact hu
    | 1, _, hu => exact hu
    | 2, _, hu => exact hu
    | 3, _, hu => exact hu
/-- A variable; a constructor without arguments; the law's substitution. -/
def vr (i : Int) : S24 := ⟨0, ⟨#[]⟩, i, []⟩
def cn (s : ByteArray) : S24 := ⟨1, s, 0, []⟩
def sv (z : Nat) : List S24 := (List.range z).map fun (i : Nat) => vr ((i : Int) + 1)
def fin (s : ByteArray) (z : Nat) : List S24 := sv z ++ [cn s, vr ((z : Int) + 1)]
theorem sv_length (z : Nat) : (sv z).length = z := by simp [sv]
theorem sv_succ (z : Nat) : sv (z + 1) = sv z ++ [vr ((z : Int) + 1)] := by simp [sv, List.range_succ]
theorem fin_length (s : ByteArray) (z : Nat) : (fin s z).length = z + 2 := by simp [fin, sv_length]
theorem fin_flat (s : ByteArray) (z : Nat) : ∀ e ∈ fin s z, e.f3 = [] := by
  intro e he
  unfold fin sv at he
  simp only [List.mem_append, List.mem_map, List.mem_cons, List.not_mem_nil, or_false] at he
  rcases he with ⟨_, _, rfl⟩ | rfl | rfl <;> rfl
theorem fin_at {s : ByteArray} {z i : Nat} (h : i < z) : rd_T24 (fin s z) (i : Int) = vr ((i : Int) + 1) := by
  unfold rd_T24 fin
  rw [Int.toNat_natCast, List.getD_eq_getElem?_getD, List.getElem?_append_left (by rw [sv_length]; exact h)]
  simp [sv, h]
theorem fin_con (s : ByteArray) (z : Nat) : rd_T24 (fin s z) (z : Int) = cn s := by
  unfold rd_T24 fin
  rw [Int.toNat_natCast, List.getD_eq_getElem?_getD, List.getElem?_append_right (by rw [sv_length]; omega), sv_length]
  simp
theorem fin_last (s : ByteArray) (z : Nat) : rd_T24 (fin s z) ((z : Int) + 1) = vr ((z : Int) + 1) := by
  unfold rd_T24 fin
  rw [show ((z : Int) + 1).toNat = z + 1 by omega, List.getD_eq_getElem?_getD, List.getElem?_append_right (by rw [sv_length]; omega), sv_length]
  simp
theorem walk_con (s : ByteArray) (z k : Nat) : walkTo (fin s z) (k + 1) (cn s) = some (cn s) := by
  rw [walkTo, if_neg (by rintro ⟨h, _⟩; cases h)]
theorem walk_var (s : ByteArray) (z : Nat) : ∀ d i : Nat, i + d = z → walkTo (fin s z) (d + 2) (vr (i : Int)) = some (cn s)
  | 0, i, h => by
    obtain rfl : i = z := by omega
    rw [walkTo, if_pos ⟨rfl, by rw [fin_length]; show (i : Int) < _; omega⟩, if_neg (by show ¬ (i : Int) < 0; omega)]
    rw [show (vr (i : Int)).f2 = (i : Int) from rfl, fin_con, if_neg (by rintro ⟨h, _⟩; cases h)]
    exact walk_con s i 0
  | d + 1, i, h => by
    rw [walkTo, if_pos ⟨rfl, by rw [fin_length]; show (i : Int) < _; omega⟩, if_neg (by show ¬ (i : Int) < 0; omega)]
    rw [show (vr (i : Int)).f2 = (i : Int) from rfl, fin_at (by omega), if_neg (by rintro ⟨_, h⟩; have h2 : (i : Int) + 1 = i := h; omega)]
    exact walk_var s z d (i + 1) (by omega)
theorem walk_self (s : ByteArray) (z : Nat) : walkTo (fin s z) 1 (vr ((z : Int) + 1)) = some (vr ((z : Int) + 1)) := by
  rw [walkTo, if_pos ⟨rfl, by rw [fin_length]; show (z : Int) + 1 < _; omega⟩, if_neg (by show ¬ (z : Int) + 1 < 0; omega)]
  rw [show (vr ((z : Int) + 1)).f2 = (z : Int) + 1 from rfl, fin_last, if_pos ⟨rfl, rfl⟩]
theorem walk_stop {l : List S24} {y : S24} (h : y.f0 = 1) : walkTo l 1 y = some y := by
  rw [walkTo, if_neg (by rintro ⟨h2, _⟩; rw [h] at h2; cases h2)]
theorem walkF {N n : Nat} {l : List S24} {x r : S24} {A B : Option Addr} {c d : Nat} {w : World} (hfl : n = l.length) (hA : k24.C w A l.length l) (hB : k24.C w B x.f3.length x.f3) (hw : walkTo l N x = some r) :
    Calls Try.prog 11 #[.slice A n c, tyV x B d] w fun e w' => (∃ B' d', e = .returned (tyV r B' d') ∧ k24.C w' B' r.f3.length r.f3) ∧ Below w.heap.size w w' := by
  subst hfl
  exact (walk_calls N l x r A B c d w hA hB hw).mono fun e w' ⟨⟨B', d', h1, h2⟩, hb⟩ => ⟨⟨B', d', h1, Kd.C_below h2 hb⟩, hb⟩
theorem C_none (w : World) (A : Option Addr) : k24.C w A 0 [] := ⟨rfl, by omega, fun h => absurd h (by omega)⟩
abbrev obC (s : ByteArray) : Obj := ob1 (.int .i64 1) (.string s) (.int .i64 0) (.slice none 0 0)
end Go.Proofs.Ythblhnljnpjdmaa.Ty
