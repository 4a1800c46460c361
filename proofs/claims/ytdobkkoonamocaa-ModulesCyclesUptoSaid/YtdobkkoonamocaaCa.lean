/- slices.Sorted(slices.Values(..)) of strings. -/
import Derived.RangeFuncNested
import Derived.RangeFuncBound
import Derived.RangeFuncCalls
import Derived.RangeFuncLeaves
import Derived.RangeFuncBox
import Derived.RangeFuncKeeps
import Derived.Shelf.Abstract
import Derived.Shelf.RegionOpen
import Derived.OwnWalkIn
import Derived.TacticsInMore
import Derived.LoopNIn
import Derived.LoopIn
import Derived.Test.YtdobkkoonamocaaNs
namespace Go.Proofs.Ytdobkkoonamocaa.Mo
open Go.RowKit Go.Shelf Go.Proofs.Ytdobkkoonamocaa.PModulesOrdered Go.Proofs.YtdobkkoonamocaaW.PrintWords Go.Proofs.YtdobkkoonamocaaW.PrintLast Go.Proofs.YtdobkkoonamocaaW.PrintMore
set_option linter.unusedVariables false
set_option linter.unusedSimpArgs false
attribute [local go_sem] Oper.semAt_some
/-- A list of strings that can be read. -/
def RdS (W : World) (A : Option Addr) (l : List ByteArray) : Prop := Kd.C Kd.string W A l.length l
theorem RdS.up {W W' : World} {A : Option Addr} {l : List ByteArray} (h : RdS W A l) (hb : Below W.heap.size W W') : RdS W' A l := Kd.C_below h hb
theorem RdS.at_ {W : World} {A : Option Addr} {l : List ByteArray} (h : RdS W A l) {i : Nat} {y : ByteArray} (hi : l[i]? = some y) : ∃ ad, A = some ad ∧ W.cell? (ad.add i) = some (.string y) := by
  obtain ⟨hl, rfl⟩ := List.getElem?_eq_some_iff.1 hi
  obtain ⟨ad, e, hc⟩ := at_S h hl
  rw [sx_get hl] at hc
  exact ⟨ad, e, hc⟩
abbrev strsV (l : List ByteArray) : List Value := l.map Value.string
set_option maxRecDepth 100000 in
set_option maxHeartbeats 2000000 in
theorem vals1_in (F : Fence) (n : Nat) (h44 : F.fn 44) (hro : F.round = none) (hn : 1 ≤ n) (l Bs n₀ c : Nat) (A : Option Addr) (st : List ByteArray) (w0 : World) (hn0 : n₀ = w0.heap.size) (hl : st.length < 4611686018427387904) (hR : RdS w0 A st) (J Jx : List ByteArray → World → Prop)
    (hY : ∀ pre x W, J pre W → pre.length < st.length → YieldAt F (n - 1) Try.prog l #[.string x] W fun e W' =>
      (e = .returned (.bool true) ∧ J (pre ++ [x]) W' ∧ Below n₀ W W') ∨ (e = .returned (.bool false) ∧ Jx (pre ++ [x]) W'))
    (W : World) (hW : Below n₀ w0 W) (hBs : w0.cell? ⟨Bs, 0, none⟩ = some (.slice A st.length c)) (h0 : J [] W) :
    CallsIn F n Try.prog 44 #[.func (.yield l) #[] #[], .pointer (some ⟨Bs, 0, none⟩)] W fun e W' => (∃ v, e = .returned v) ∧
      ((∃ ys, ys = st ∧ J ys W') ∨ (∃ pre, pre <+: st ∧ Jx pre W')) := by
  subst hn0
  have hc0 : ∀ W', Below w0.heap.size w0 W' → W'.cell? ⟨Bs, 0, none⟩ = some (.slice A st.length c) := fun W' h => pw_cell_below h hBs
  have hl9 : (st.length : Int) ≤ 9223372036854775807 := by omega
  refine callsIn_of_wp Try.func44 rfl h44 ?_ hro
  simp only [Try.ntmps44, List.size_toArray, List.length_cons, List.length_nil, Nat.reduceAdd, Nat.reduceSub, Array.replicate_succ, Array.replicate_zero, List.push_toArray, List.append_toArray, List.nil_append, List.cons_append]
  have c0 := hc0 _ hW
  gi_wp2
  gi_loopw [7] (fun i wr => ∃ k : Nat, k ≤ st.length ∧ i = .int .i64 k ∧ J (st.take k) wr ∧ Below w0.heap.size w0 wr)
    (fun i _ => st.length - (intOf i).toNat)
  case atStart => exact ⟨0, Nat.zero_le _, rfl, h0, hW⟩
  case round =>
    obtain ⟨k, hk, rfl, hJs, hnx⟩ := hrel
    by_cases hlt : k < st.length
    · obtain ⟨y, hy⟩ : ∃ y, st[k]? = some y := ⟨_, List.getElem?_eq_getElem hlt⟩
      obtain ⟨ad, rfl, x0⟩ := (hR.up hnx).at_ hy
      have hp2 : st.take (k + 1) = st.take k ++ [y] := by
        obtain ⟨hl2, rfl⟩ := List.getElem?_eq_some_iff.1 hy
        exact List.take_succ_eq_append_getElem hl2
      obtain ⟨fn, tmps, assign, body, hy2, hRR⟩ := hY _ y wr hJs (by rw [List.length_take]; omega)
      clear c0 hY
      gi_wp2
      refine hRR.mono ?_
      rintro e W3 (⟨rfl, hJ3, hk3⟩ | ⟨rfl, hJx3⟩)
      · gi_wp2
        go_roundw
        case rel => exact ⟨k + 1, by omega, by go_num, by rw [hp2]; exact hJ3, hnx.trans hk3⟩
        case measure => simp [intOf]; omega
      · gi_wp2
        refine bodyPost_ret (results_none rfl _ _ _) rfl ?_
        exact ⟨⟨_, rfl⟩, .inr ⟨_, by rw [← hp2]; exact List.take_prefix _ _, hJx3⟩⟩
    · obtain rfl : k = st.length := by omega
      gi_wp2
      go_end0
      exact ⟨⟨_, rfl⟩, .inl ⟨_, rfl, by rw [List.take_length] at hJs; exact hJs⟩⟩
set_option maxHeartbeats 1000000 in
theorem vals_calls (A : Option Addr) (len cap : Nat) (w : World) :
    Calls Try.prog 27 #[.slice A len cap] w fun e w' => e = .returned (.func (.func 44) #[] #[.pointer (some ⟨w.heap.size, 0, none⟩)]) ∧ w' = w.alloc (.cells #[.slice A len cap] 22) := by
  go_enter Try.func27, Try.ntmps27
  go_wp2_with fail
  go_ret
  exact ⟨rfl, rfl⟩
theorem vals_stops (F : Fence) (n : Nat) (h44 : F.fn 44) (hro : F.round = none) (hn : 1 ≤ n) (Bs c : Nat) (A : Option Addr) (st : List ByteArray) (w0 W0 : World) (hb : Below w0.heap.size w0 W0) (hl : st.length < 4611686018427387904) (hR : RdS w0 A st) (hBs : w0.cell? ⟨Bs, 0, none⟩ = some (.slice A st.length c)) :
    SeqStopsK F n Try.prog 44 #[.pointer (some ⟨Bs, 0, none⟩)] (fun x : ByteArray => #[Value.string x]) (Below w0.heap.size) (fun ys => ys = st) (fun pre => pre <+: st) st.length W0 :=
  fun l J Jx W hW _ _ hY h0 => vals1_in F n h44 hro hn l Bs _ c A st w0 rfl hl hR J Jx hY W (hb.trans (hW.mono hb.size)) hBs h0
theorem inf9 : ∃ i, Try.prog.info? 9 = some i ∧ i.zero = some (.string ⟨#[]⟩) ∧ i.size = 1 ∧ i.bytes = 16 := by
  obtain ⟨i0, hi, hz⟩ := Option.map_eq_some_iff.1 info9
  simp only [Prod.mk.injEq] at hz
  exact ⟨i0, hi, hz.1, hz.2.1, hz.2.2⟩
set_option maxRecDepth 100000 in
set_option maxHeartbeats 4000000 in
theorem appendSeq_in (F : Fence) (n : Nat) (h53 : F.fn 53) (h44 : F.fn 44) (hro : F.round = none) (hn : 3 ≤ n) (Bs c : Nat) (A : Option Addr) (st : List ByteArray) (w : World) (hl : st.length ≤ 8796093022207) (hR : RdS w A st) (hBs : w.cell? ⟨Bs, 0, none⟩ = some (.slice A st.length c)) :
    CallsIn F n Try.prog 53 #[.slice none 0 0, .func (.func 44) #[] #[.pointer (some ⟨Bs, 0, none⟩)]] w fun e W' => (∃ v, e = .returned v ∧ W'.ownsRow w.heap.size 9 1 v st.length (strsV st)) ∧ Below w.heap.size w W' := by
  have h1 : 1 ≤ n := by omega
  refine callsIn_of_wp_marks Try.func53 rfl h53 ?_ hro
  simp only [Try.ntmps53, List.size_toArray, List.length_cons, List.length_nil, Nat.reduceAdd, Nat.reduceSub, Array.replicate_succ, Array.replicate_zero, List.push_toArray, List.append_toArray, List.nil_append, List.cons_append]
  gi_wp2
  have bR := Boxed.new w 22 (.slice none 0 0)
  have hB0 : Below w.heap.size w (w.alloc (.cells #[.slice none 0 0] 22)) := (Below.refl _ w).alloc (Nat.le_refl _) _
  have hsz : (w.alloc (.cells #[.slice none 0 0] 22)).heap.size = w.heap.size + 1 := by simp
  obtain ⟨W0, hW0⟩ : ∃ W0, w.alloc (.cells #[.slice none 0 0] 22) = W0 := ⟨_, rfl⟩
  rw [hW0] at bR hB0 hsz ⊢
  clear hW0
  obtain ⟨i0, hi, hz0, hz1, hz2⟩ := inf9
  refine wpIn_rangeFunc_ownG hro h1 (gf := 44) (lb := #[.pointer (some ⟨Bs, 0, none⟩)]) rfl h44 (enters_of Try.func44 (by kernel_rfl) rfl)
    (vals_stops F (n - 1) h44 hro (by omega) Bs c A st w W0 hB0 (by omega) hR hBs) belowK_t (belowK_b (by omega)) (Below.refl _ _) (fun _ => rfl)
    (fun pre W => (∃ v, Boxed W w.heap.size 22 v ∧ W.ownsRow w.heap.size 9 1 v pre.length (strsV pre) ∧ True) ∧ Below w.heap.size w W)
    (fun _ _ _ => False)
    (OwnFrom.and (Own.from (holdsRow_own w.heap.size w.heap.size 22 9 1 List.length strsV (fun _ _ => True)) _) (ownFrom_below (Nat.le_refl _) (by omega)))
    (fun _ _ _ _ _ hs _ _ => hs)
    ⟨⟨_, bR, World.ownsRow_nil _ _ _ _, trivial⟩, hB0⟩
    (fun x => { tmps := #[.slice none 0 0, .func (.func 44) #[] #[.pointer (some ⟨Bs, 0, none⟩)], .pointer (some ⟨w.heap.size, 0, none⟩), undef, .slice none 0 0, .string x, .func (.func 44) #[] #[.pointer (some ⟨Bs, 0, none⟩)], .string x, undef, undef, undef, undef, undef], defers := [] }) ?assign ?body ?done ?stop
  case assign =>
    intro l x W K hK
    gi_wp2
    exact hK
  case body =>
    rintro l pre x W ⟨⟨v, hv, hrow, _⟩, hB⟩ hlt
    have cR := hv.cell
    have fR := hv.frozen
    have hBs2 := hB.size
    gi_wp2_with (gi_at_builtin; refine wpListIn_append_own _ rfl _ _ 22 rfl w.heap.size 9 i0 (.string ⟨#[]⟩) 1 16 Try.underlying22 hi hz0 hz1 hz2 rfl (by decide) _ _ _ rfl (hrow.alloc _) ⟨W.heap.size, 0, none⟩ 1 1 [.string x] rfl rfl (cell_one_new _ _ _) (by simp [Value.oneCell']) (by simp only [maxLen]; omega) (by omega) (by simp; omega) ?_; intro v' w3 hown' hg3 hnil3; obtain ⟨hv1, hv2, hrow2, hk, hb⟩ := Boxed.appended hv (by decide) hrow hBs2 (Nat.le_refl _) hown' hg3; obtain ⟨g', cap', rfl⟩ := ownsRow_succ hown'; have cR3 := hv1.cell; have fR3 := hv1.frozen)

    exact ⟨hk.from _, hb, ⟨_, hv2, by simpa using hrow2, trivial⟩, hB.trans hb⟩
  case done =>
    rintro D ys W hD rfl ⟨⟨v, hv, hrow, _⟩, hB⟩ hK
    have cR := hv.cell
    have fR := hv.frozen
    gi_wp2
    refine ⟨by simp, .inl ⟨_, _, rfl, run_takeDeferred hK, ?_⟩⟩
    refine ⟨_, results_tmp rfl _ _ _, ⟨_, rfl, ownsRow_putObj hrow _ hK rfl⟩, hB.trans (belowK_b (w := w) (Nat.le_refl _) W D _ _ (by omega) hK rfl rfl)⟩
  case stop =>
    rintro D c pre W _ _ h _
    exact h.elim
theorem collect_in (F : Fence) (n : Nat) (h43 : F.fn 43) (h53 : F.fn 53) (h44 : F.fn 44) (hro : F.round = none) (hn : 4 ≤ n) (Bs c : Nat) (A : Option Addr) (st : List ByteArray) (w : World) (hl : st.length ≤ 8796093022207) (hR : RdS w A st) (hBs : w.cell? ⟨Bs, 0, none⟩ = some (.slice A st.length c)) :
    CallsIn F n Try.prog 43 #[.func (.func 44) #[] #[.pointer (some ⟨Bs, 0, none⟩)]] w fun e W' => (∃ v, e = .returned v ∧ W'.ownsRow w.heap.size 9 1 v st.length (strsV st)) ∧ Below w.heap.size w W' := by
  have h1 : 1 ≤ n := by omega
  refine callsIn_of_wp Try.func43 rfl h43 ?_ hro
  simp only [Try.ntmps43, List.size_toArray, List.length_cons, List.length_nil, Nat.reduceAdd, Nat.reduceSub, Array.replicate_succ, Array.replicate_zero, List.push_toArray, List.append_toArray, List.nil_append, List.cons_append]
  gi_wp2_with (gi_at_call 53; refine (appendSeq_in F (n - 1) h53 h44 hro (by omega) Bs c A st w hl hR hBs).mono ?_; rintro e w' ⟨⟨v, rfl, hr⟩, hb⟩; obtain ⟨A1, c1, rfl⟩ := own_slice hr)
  go_ret
  exact ⟨⟨_, rfl, hr⟩, hb⟩
/-- slices.Sorted of slices.Values. -/
theorem sorted_calls (Bs c : Nat) (A : Option Addr) (st : List ByteArray) (w : World) (hl : st.length ≤ 8796093022207) (hR : RdS w A st) (hBs : w.cell? ⟨Bs, 0, none⟩ = some (.slice A st.length c)) :
    Calls Try.prog 26 #[.func (.func 44) #[] #[.pointer (some ⟨Bs, 0, none⟩)]] w fun e W' => (∃ A' c', e = .returned (.slice A' (dS st).length c') ∧ W'.ownsRow w.heap.size 9 1 (.slice A' (dS st).length c') (dS st).length (((dS st).mergeSort leS).map encStr)) ∧ Below w.heap.size w W' := by
  have HC := Go.Lib.hid (callsIn_wide.1 (collect_in Fence.wide 4 trivial trivial trivial rfl (Nat.le_refl _) Bs c A st w hl hR hBs))
  have HL := Go.Lib.hid hl
  clear hR hBs hl
  go_enter Try.func26, Try.ntmps26
  go_wp2_with fail
  refine HC.out.mono ?_
  rintro e w1 ⟨⟨v, rfl, hr⟩, hb⟩
  obtain ⟨A1, c1, rfl⟩ := own_slice hr
  have HR1 := Go.Lib.hid (show w1.ownsRow w.heap.size 9 1 (.slice A1 (dS st).length c1) (dS st).length ((dS st).map encStr) from by rw [dS_length, ← dS_enc]; exact hr)
  have HB1 := Go.Lib.hid hb
  have HN := Go.Lib.hid (dS_length st)
  rw [← dS_length st]
  clear hr hb HC
  go_wp2_with fail
  refine (sort_own HR1.out (by have h1 := HN.out; have h2 := HL.out; omega) HB1.out.size).mono ?_
  rintro e w2 ⟨rfl, ho2, hg2, hb2⟩
  have HB2 := Go.Lib.hid (HB1.out.trans hb2)
  have HO2 := Go.Lib.hid ho2
  clear ho2 hg2 hb2
  go_wp2_with fail
  go_ret
  exact ⟨⟨_, _, rfl, HO2.out⟩, HB2.out⟩
end Go.Proofs.Ytdobkkoonamocaa.Mo
