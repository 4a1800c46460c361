/- The marker's enclosing column: a range over slices.Backward. -/
import Derived.RangeFuncNested
import Derived.RangeFuncBound
import Derived.RangeFuncCalls
import Derived.RangeFuncLeaves
import Derived.RangeFuncBox
import Derived.Shelf.Abstract
import Derived.Shelf.RegionOpen
import Derived.OwnWalkIn
import Derived.TacticsInMore
import Derived.LoopNIn
import Derived.LoopIn
import Derived.Test.YtchbjjefjmcakaaLg
namespace Go.Proofs.Ytchbjjefjmcakaa.Lb
open Go.RowKit Go.Shelf Go.Proofs.Ytchbjjefjmcakaa.PLayoutBlocks Go.Proofs.YtchbjjefjmcakaaW.PrintWords Go.Proofs.YtchbjjefjmcakaaW.PrintLast Go.Proofs.YtchbjjefjmcakaaW.PrintMore
set_option linter.unusedVariables false
set_option linter.unusedSimpArgs false
attribute [local go_sem] Oper.semAt_some
/-- The column of the innermost block (the topmost frame first). -/
def encR : List Fr → Int
  | [] => 0
  | c :: r => if 0 < c.1 then c.1 else encR r
theorem encR_app : ∀ {a b : List Fr}, (∃ x ∈ a, 0 < x.1) → encR (a ++ b) = encR a
  | [], _, ⟨_, h, _⟩ => by cases h
  | c :: a, b, ⟨x, hx, h⟩ => by
    show (if 0 < c.1 then c.1 else encR (a ++ b)) = if 0 < c.1 then c.1 else encR a
    by_cases hc : 0 < c.1
    · rw [if_pos hc, if_pos hc]
    · rw [if_neg hc, if_neg hc]
      refine encR_app ⟨x, ?_, h⟩
      rcases List.mem_cons.1 hx with rfl | h2
      · exact absurd h hc
      · exact h2
theorem encR_none : ∀ {a : List Fr}, (∀ x ∈ a, ¬ 0 < x.1) → encR a = 0
  | [], _ => rfl
  | c :: a, h => by
    show (if 0 < c.1 then c.1 else encR a) = 0
    rw [if_neg (h c List.mem_cons_self)]
    exact encR_none fun x hx => h x (List.mem_cons_of_mem _ hx)
theorem encR_snoc : ∀ {a : List Fr} {y : Fr}, (∀ x ∈ a, ¬ 0 < x.1) → 0 < y.1 → encR (a ++ [y]) = y.1
  | [], y, _, hy => by show (if 0 < y.1 then y.1 else 0) = y.1; rw [if_pos hy]
  | c :: a, y, h, hy => by
    show (if 0 < c.1 then c.1 else encR (a ++ [y])) = y.1
    rw [if_neg (h c List.mem_cons_self)]
    exact encR_snoc (fun x hx => h x (List.mem_cons_of_mem _ hx)) hy
abbrev NF := Nat × Fr
def snds (l : List NF) : List Fr := l.map (·.2)
theorem drop_rev {st : List Fr} {j : Nat} {y : Fr} (h : st[j]? = some y) : (st.drop j).reverse = (st.drop (j + 1)).reverse ++ [y] := by
  obtain ⟨hl, rfl⟩ := List.getElem?_eq_some_iff.1 h
  rw [List.drop_eq_getElem_cons hl, List.reverse_cons]
set_option maxRecDepth 100000 in
set_option maxHeartbeats 2000000 in
theorem back1_in (F : Fence) (n : Nat) (h29 : F.fn 29) (hro : F.round = none) (hn : 1 ≤ n) (l Bs n₀ c : Nat) (A : Option Addr) (st : List Fr) (w0 : World) (hn0 : n₀ = w0.heap.size) (hl : st.length < 1000000) (hR : RdF w0 A st) (J Jx : List NF → World → Prop)
    (hY : ∀ pre x W, J pre W → pre.length < st.length → YieldAt F (n - 1) Try.prog l #[.int .i64 (x.1 : Int), fV x.2] W fun e W' =>
      (e = .returned (.bool true) ∧ J (pre ++ [x]) W' ∧ Below n₀ W W') ∨ (e = .returned (.bool false) ∧ Jx (pre ++ [x]) W'))
    (W : World) (hW : Below n₀ w0 W) (hBs : w0.cell? ⟨Bs, 0, none⟩ = some (.slice A st.length c)) (h0 : J [] W) :
    CallsIn F n Try.prog 29 #[.func (.yield l) #[] #[], .pointer (some ⟨Bs, 0, none⟩)] W fun e W' => (∃ v, e = .returned v) ∧
      ((∃ ys, snds ys = st.reverse ∧ J ys W') ∨ (∃ pre, snds pre <+: st.reverse ∧ Jx pre W')) := by
  subst hn0
  have hc0 : ∀ W', Below w0.heap.size w0 W' → W'.cell? ⟨Bs, 0, none⟩ = some (.slice A st.length c) := fun W' h => pw_cell_below h hBs
  have hl9 : (st.length : Int) ≤ 9223372036854775807 := by omega
  refine callsIn_of_wp Try.func29 rfl h29 ?_ hro
  simp only [Try.ntmps29, List.size_toArray, List.length_cons, List.length_nil, Nat.reduceAdd, Nat.reduceSub, Array.replicate_succ, Array.replicate_zero, List.push_toArray, List.append_toArray, List.nil_append, List.cons_append]
  have c0 := hc0 _ hW
  gi_wp2
  gi_loopw [3] (fun i wr => ∃ (k : Nat) (pre : List NF), k ≤ st.length ∧ i = .int .i64 ((k : Int) - 1) ∧ snds pre = (st.drop k).reverse ∧ J pre wr ∧ Below w0.heap.size w0 wr)
    (fun i _ => (intOf i + 1).toNat)
  case atStart => exact ⟨st.length, [], Nat.le_refl _, rfl, by simp [snds], h0, hW⟩
  case round =>
    obtain ⟨k, pre, hk, rfl, hp, hJs, hnx⟩ := hrel
    have c1 := hc0 _ hnx
    cases k with
    | zero =>
      gi_wp2
      go_end0
      exact ⟨⟨_, rfl⟩, .inl ⟨pre, by rw [hp]; simp, hJs⟩⟩
    | succ j =>
      obtain ⟨y, hy⟩ : ∃ y, st[j]? = some y := ⟨_, List.getElem?_eq_getElem (by omega)⟩
      obtain ⟨ad, rfl, x0, x1⟩ := (hR.up hnx).at_ hy
      rw [show (((j + 1 : Nat)) : Int) - 1 = (j : Int) by omega]
      have hjl : (j : Int) < (st.length : Int) := by omega
      have hpl : pre.length < st.length := by
        have := congrArg List.length hp
        simp [snds] at this
        omega
      obtain ⟨fn, tmps, assign, body, hy2, hRR⟩ := hY pre (j, y) wr hJs hpl
      dsimp only at hy2
      have hp2 : snds (pre ++ [(j, y)]) = (st.drop j).reverse := by
        rw [drop_rev hy, ← hp]; simp [snds]
      clear c0 hY
      gi_wp2
      refine hRR.mono ?_
      rintro e W3 (⟨rfl, hJ3, hk3⟩ | ⟨rfl, hJx3⟩)
      · gi_wp2
        go_roundw
        case rel => exact ⟨j, pre ++ [(j, y)], by omega, rfl, hp2, hJ3, hnx.trans hk3⟩
        case measure => simp [intOf]
      · gi_wp2
        refine bodyPost_ret (results_none rfl _ _ _) rfl ?_
        refine ⟨⟨_, rfl⟩, .inr ⟨_, ?_, hJx3⟩⟩
        rw [hp2]
        exact List.reverse_prefix.2 (List.drop_suffix _ _)
set_option maxHeartbeats 1000000 in
theorem back_in (F : Fence) (n : Nat) (h23 : F.fn 23) (hro : F.round = none) (A : Option Addr) (len cap : Nat) (w : World) :
    CallsIn F n Try.prog 23 #[.slice A len cap] w fun e w' => e = .returned (.func (.func 29) #[] #[.pointer (some ⟨w.heap.size, 0, none⟩)]) ∧ w' = w.alloc (.cells #[.slice A len cap] 33) := by
  refine callsIn_of_wp Try.func23 rfl h23 ?_ hro
  simp only [Try.ntmps23, List.size_toArray, List.length_cons, List.length_nil, Nat.reduceAdd, Nat.reduceSub, Array.replicate_succ, Array.replicate_zero, List.push_toArray, List.append_toArray, List.nil_append, List.cons_append]
  gi_wp2
  go_ret
  exact ⟨rfl, rfl⟩
theorem back_stops (F : Fence) (n : Nat) (h29 : F.fn 29) (hro : F.round = none) (hn : 1 ≤ n) (Bs c : Nat) (A : Option Addr) (st : List Fr) (w0 : World) (hl : st.length < 1000000) (hR : RdF w0 A st) (hBs : w0.cell? ⟨Bs, 0, none⟩ = some (.slice A st.length c)) :
    SeqStopsK F n Try.prog 29 #[.pointer (some ⟨Bs, 0, none⟩)] (fun x : NF => #[Value.int .i64 (x.1 : Int), fV x.2]) (Below w0.heap.size) (fun ys => snds ys = st.reverse) (fun pre => snds pre <+: st.reverse) st.length w0 :=
  fun l J Jx W hW _ _ hY h0 => back1_in F n h29 hro hn l Bs _ c A st w0 rfl hl hR J Jx hY W hW hBs h0
def NoneP (pre : List NF) : Prop := ∀ x ∈ snds pre, ¬ 0 < x.1
def SomeP (pre : List NF) : Prop := ∃ x ∈ snds pre, 0 < x.1
theorem snds_app (a b : List NF) : snds (a ++ b) = snds a ++ snds b := List.map_append
set_option maxRecDepth 100000 in
set_option maxHeartbeats 4000000 in
theorem enc_in (F : Fence) (n : Nat) (h11 : F.fn 11) (h23 : F.fn 23) (h29 : F.fn 29) (hro : F.round = none) (hn : 3 ≤ n) (g c : Nat) (A : Option Addr) (st : List Fr) (w : World) (hl : st.length < 1000000) (hR : RdF w A st) (hc : w.cell? ⟨g, 0, none⟩ = some (.slice A st.length c)) :
    CallsIn F n Try.prog 11 #[.pointer (some ⟨g, 0, none⟩)] w fun e W' => e = .returned (.int .i64 (encR st.reverse)) ∧ Below w.heap.size w W' := by
  have h1 : 1 ≤ n := by omega
  have c0 : ∀ o, (w.alloc o).cell? ⟨g, 0, none⟩ = some (.slice A st.length c) := fun o => pw_cell_below (below_alloc (Below.refl _ _) o) hc
  refine callsIn_of_wp_marks Try.func11 rfl h11 ?_ hro
  simp only [Try.ntmps11, List.size_toArray, List.length_cons, List.length_nil, Nat.reduceAdd, Nat.reduceSub, Array.replicate_succ, Array.replicate_zero, List.push_toArray, List.append_toArray, List.nil_append, List.cons_append]
  gi_wp2_with (gi_at_call 23; refine (back_in F (n - 1) h23 hro _ _ _ _).mono ?_; rintro e w' ⟨rfl, rfl⟩)
  have bR := (Boxed.new w 3 (.int .i64 0)).alloc (.cells #[.slice A st.length c] 33)
  have bA := Boxed.new (w.alloc (.cells #[.int .i64 0] 3)) 33 (.slice A st.length c)
  simp only [World.size_alloc] at bA
  have hB0 : Below w.heap.size w ((w.alloc (.cells #[.int .i64 0] 3)).alloc (.cells #[.slice A st.length c] 33)) := ((Below.refl _ w).alloc (Nat.le_refl _) _).alloc (by simp) _
  have hsz : ((w.alloc (.cells #[.int .i64 0] 3)).alloc (.cells #[.slice A st.length c] 33)).heap.size = w.heap.size + 2 := by simp
  obtain ⟨W0, hW0⟩ : ∃ W0, (w.alloc (.cells #[.int .i64 0] 3)).alloc (.cells #[.slice A st.length c] 33) = W0 := ⟨_, rfl⟩
  rw [hW0] at bR bA hB0 hsz ⊢
  clear hW0
  refine wpIn_rangeFunc_ownH hro h1 (gf := 29) (lb := #[.pointer (some ⟨w.heap.size + 1, 0, none⟩)]) rfl h29 (enters_of Try.func29 (by kernel_rfl) rfl)
    (back_stops F (n - 1) h29 hro (by omega) (w.heap.size + 1) c A st W0 hl (hR.up hB0) bA.cell) belowK_t (belowK_b (by omega)) (Below.refl _ _) (fun _ => rfl)
    (fun pre W => NoneP pre ∧ Below W0.heap.size W0 W)
    (fun c pre W => ((c = .ret ∧ SomeP pre) ∧ Boxed W w.heap.size 3 (.int .i64 (encR (snds pre)))) ∧ Below w.heap.size w W)
    (OwnFrom.and (ownFrom_pure _ _) (ownFrom_below (Nat.le_refl _) (Nat.le_refl _)))
    (fun c => OwnFrom.and (OwnFrom.and (ownFrom_pure _ _) (Own.from (boxed_own _ _ (fun pre => Value.int .i64 (encR (snds pre)))) _)) (ownFrom_below (Nat.le_refl _) (by omega)))
    ⟨fun x hx => (by simp [snds] at hx), Below.refl _ _⟩
    (fun x a' W => ∃ Bx, w.heap.size < Bx ∧ (W.heap[Bx]? = some (.cells #[.int .i64 x.2.1, .string x.2.2] 41 (0, 0))) ∧ a' = { tmps := #[.pointer (some ⟨g, 0, none⟩), undef, .pointer (some ⟨w.heap.size, 0, none⟩), undef, .pointer (some ⟨Bx, 0, none⟩), .pointer (some ⟨g, 0, none⟩), .pointer (some ⟨g, 0, none⟩), .pointer (some ⟨g, 0, none⟩), .slice A st.length c, .func (.func 29) #[] #[.pointer (some ⟨w.heap.size + 1, 0, none⟩)], .int .i64 (x.1 : Int), fV x.2, undef, undef, undef, undef, undef], defers := [] })
    (fun x a' _ X Y row hs hg hr => by obtain ⟨Bx, e1, e2, e3⟩ := hs; exact ⟨Bx, e1, blk_grown e2 hg (fun e => by obtain ⟨_, o, ho, hoc⟩ := hr Bx e.symm; rw [e2] at ho; cases ho; cases hoc), e3⟩)
    ?assign ?body ?done ?stop
  case assign =>
    rintro l pre x W K ⟨hp, hB1⟩ hK
    gi_wp2
    exact hK _ _ ((KeepsOthers.alloc _ _).from _) ((Below.refl _ W).alloc hB1.size _) ⟨hp, hB1.alloc hB1.size _⟩ ⟨W.heap.size, by have := hB1.size; omega, blk_new W _, rfl⟩
  case body =>
    rintro l pre x a' W hlW ⟨r, hr⟩ ⟨hp, hB1⟩ ⟨Bx, hBx, bX, rfl⟩ hlt
    have cX : W.cell? ⟨Bx, 0, none⟩ = some (.int .i64 x.2.1) := (blk_cell bX 0).trans rfl
    have bR1 : Boxed W w.heap.size 3 (.int .i64 0) := blk_up bR hB1
    have cR := bR1.cell
    have fR := bR1.frozen
    by_cases hx : 0 < x.2.1
    · have hx' : decide (0 < x.2.1) = true := decide_eq_true hx
      gi_wp2
      have hsn : snds (pre ++ [x]) = snds pre ++ [x.2] := by simp [snds]
      refine ⟨(KeepsOthers.setCell _ _ _).from _, ⟨⟨rfl, x.2, by rw [hsn]; simp, hx⟩, ?_⟩, ?_⟩
      · rw [hsn, encR_snoc hp hx]; exact bR1.set _
      · exact (hB0.trans (hB1.mono hB0.size)).setCell (p := ⟨w.heap.size, 0, none⟩) (Nat.le_refl _) _
    · have hx' : decide (0 < x.2.1) = false := decide_eq_false hx
      gi_wp2
      have hsn : snds (pre ++ [x]) = snds pre ++ [x.2] := by simp [snds]
      refine ⟨KeepsFrom.refl _ _, Below.refl _ _, fun y hy => ?_, by rw [← hsz]; exact hB1⟩
      rw [hsn] at hy
      rcases List.mem_append.1 hy with h | h
      · exact hp y h
      · rw [List.mem_singleton.1 h]; exact Int.not_lt.mpr hx
  case done =>
    rintro D xs W hD hS ⟨hp, hB1⟩ hK
    have bR1 : Boxed W w.heap.size 3 (.int .i64 0) := blk_up bR hB1
    have cR := bR1.cell
    have fR := bR1.frozen
    gi_wp2
    have hK' := (KeepsOthers.setCell W ⟨w.heap.size, 0, none⟩ (.int .i64 0)).same D _ hK rfl
    refine ⟨by simp, .inl ⟨_, _, rfl, run_takeDeferred hK', ?_⟩⟩
    have hc5 := cell_kept (bR1.set (.int .i64 0)).cell (grownBy_putObj' _ D (.deferred none)) (fun r e => by cases e; exact ⟨_, hK', rfl⟩)
    refine ⟨.int .i64 0, ?_, by rw [← hS, encR_none hp], ((hB0.trans (hB1.mono hB0.size)).setCell (p := ⟨w.heap.size, 0, none⟩) (Nat.le_refl _) _).trans (belowK_b (w := w) (Nat.le_refl _) _ D _ _ (by omega) hK' rfl rfl)⟩
    simp [results, Try.f11, go_sem, hc5]
  case stop =>
    rintro D c pre W hD hpre ⟨⟨⟨rfl, hx⟩, bR1⟩, hB⟩ hK
    gi_wp2
    refine ⟨by simp, .inl ⟨_, _, rfl, run_takeDeferred hK, ?_⟩⟩
    have hc5 := cell_kept bR1.cell (grownBy_putObj' _ D (.deferred none)) (fun r e => by cases e; exact ⟨_, hK, rfl⟩)
    refine ⟨.int .i64 (encR (snds pre)), ?_, ?_, hB.trans (belowK_b (w := w) (Nat.le_refl _) W D _ _ (by omega) hK rfl rfl)⟩
    · simp [results, Try.f11, go_sem, hc5]
    · obtain ⟨t, ht⟩ := hpre
      rw [← ht, encR_app hx]
/-- The enclosing column. -/
theorem enc_calls {p : Pm} {g : Nat} (hm : Mkr p g) {st : List Fr} {out : List S27} {W : World} (h : TwoE p st out W) (hl : st.length < 1000000) :
    Calls Try.prog 11 #[.pointer (some ⟨g, 0, none⟩)] W fun e w' => e = .returned (.int .i64 (encR st.reverse)) ∧ Below W.heap.size W w' := by
  obtain ⟨As, cs, Ao, co, h⟩ := h
  have c0 := h.cS
  rw [hm.hs] at c0
  exact callsIn_wide.1 (enc_in Fence.wide 3 trivial trivial trivial rfl (Nat.le_refl _) g cs As st W hl (h.rd hl) c0)
end Go.Proofs.Ytchbjjefjmcakaa.Lb
