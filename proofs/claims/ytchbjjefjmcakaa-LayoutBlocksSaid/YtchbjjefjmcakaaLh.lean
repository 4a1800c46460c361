/- The marker's inner frames. -/
import Derived.Test.YtchbjjefjmcakaaLg
namespace Go.Proofs.Ytchbjjefjmcakaa.Lb
open Go.RowKit Go.Proofs.Ytchbjjefjmcakaa.PLayoutBlocks Go.Proofs.YtchbjjefjmcakaaW.PrintWords Go.Proofs.YtchbjjefjmcakaaW.PrintLast Go.Proofs.YtchbjjefjmcakaaW.PrintMore
set_option linter.unusedVariables false
set_option linter.unusedSimpArgs false
/-- The frames above the innermost bracket, the topmost first. -/
def blk (st : List Fr) : List Fr := st.reverse.takeWhile fun c => decide (0 < c.1)
theorem takeWhile_all {α : Type} {q : α → Bool} : ∀ {a b : List α}, (∀ x ∈ a, q x = true) → (∀ x, b.head? = some x → q x = false) → (a ++ b).takeWhile q = a
  | [], [], _, _ => rfl
  | [], x :: b, _, h => by rw [List.nil_append, List.takeWhile_cons, h x rfl]; rfl
  | x :: a, b, h1, h2 => by
    rw [List.cons_append, List.takeWhile_cons, if_pos (h1 x List.mem_cons_self), takeWhile_all (fun y hy => h1 y (List.mem_cons_of_mem _ hy)) h2]
theorem blk_drop {st : List Fr} {k : Nat} (hk : k ≤ st.length) (h1 : ∀ j y, k ≤ j → st[j]? = some y → 0 < y.1) (h2 : ∀ j y, k = j + 1 → st[j]? = some y → ¬ 0 < y.1) : blk st = (st.drop k).reverse := by
  unfold blk
  have e : st.reverse = (st.drop k).reverse ++ (st.take k).reverse := by rw [← List.reverse_append, List.take_append_drop]
  rw [e]
  refine takeWhile_all (fun x hx => ?_) (fun x hx => ?_)
  · obtain ⟨j, hj⟩ := List.mem_iff_getElem?.1 (List.mem_reverse.1 hx)
    rw [List.getElem?_drop] at hj
    exact decide_eq_true (h1 _ _ (by omega) hj)
  · rw [List.head?_reverse, List.getLast?_eq_getElem?, List.length_take, List.getElem?_take] at hx
    split at hx
    · rename_i hlt
      refine decide_eq_false (h2 (k - 1) x (by omega) ?_)
      rw [← hx]; congr 1; omega
    · cases hx
theorem any_blk {st : List Fr} {k : Nat} (h : blk st = (st.drop k).reverse) (q : Fr → Bool) : (st.drop k).any q = (blk st).any q := by rw [h, List.any_reverse]
theorem RdF.drop {W : World} {A : Option Addr} {l : List Fr} {c m : Nat} (h : RdF W A l) (hm : m ≤ l.length) (hc : l.length ≤ c) : RdF W (if c = m then A else A.map (·.add (m * 2))) (l.drop m) := by
  have h' : k41.C W A (l.map f41).length (l.map f41) := by rw [List.length_map]; exact h
  have h2 := Kd.C_drop (m := m) (c := c) h' (by rw [List.length_map]; exact hm) (by rw [List.length_map]; exact hc)
  rw [← List.map_drop, List.length_map] at h2
  exact h2
set_option maxRecDepth 100000 in
theorem inner_calls {p : Pm} {g : Nat} (hm : Mkr p g) {st : List Fr} {out : List S27} {W : World} (h : TwoE p st out W) (hl : st.length < 1000000) :
    Calls Try.prog 27 #[.pointer (some ⟨g, 0, none⟩)] W fun e w' => (∃ (A : Option Addr) (c k : Nat), e = .returned (.slice A (st.drop k).length c) ∧ RdF w' A (st.drop k) ∧ blk st = (st.drop k).reverse) ∧ Below W.heap.size W w' := by
  obtain ⟨As, cs, Ao, co, h⟩ := h
  have HR := Go.Lib.hid (h.rd hl)
  have C0 := Go.Lib.hid (show ∀ w', Below W.heap.size W w' → w'.cell? ⟨g, 0, none⟩ = some (.slice As st.length cs) from fun w' hb => by
    have := (h.up hb).cS
    rw [hm.hs] at this
    exact this)
  have HC := Go.Lib.hid (own_cap h.rS)
  have HL := Go.Lib.hid hl
  have c0 := C0.out W (Below.refl _ _)
  have hl' : (st.length : Int) ≤ 9223372036854775807 := by omega
  clear h hm hl
  go_enter Try.func27, Try.ntmps27
  go_wp2_with fail
  clear c0
  go_loopg [3] st.length (fun m v3 wr => ∃ k : Nat, k = m ∧ v3 = .int .i64 k ∧ Hid (k ≤ st.length) ∧ Hid (∀ j y, k ≤ j → st[j]? = some y → 0 < y.1) ∧ Hid (Below W.heap.size W wr))
  case atStart => exact ⟨st.length, rfl, rfl, Go.Lib.hid (Nat.le_refl _), Go.Lib.hid (fun j y hj h => by have := (List.getElem?_eq_some_iff.1 h).1; omega), Go.Lib.hid (Below.refl _ _)⟩
  case round =>
    obtain ⟨k, rfl, rfl, hk, hall, hb⟩ := hrel
    have c0 := C0.out wr hb.out
    cases k with
    | zero =>
      go_wp2_with fail
      go_ret
      exact ⟨⟨As, cs, 0, rfl, (HR.out.up hb.out), blk_drop (Nat.zero_le _) hall.out (fun j y h => by omega)⟩, hb.out⟩
    | succ j =>
      obtain ⟨y, hy⟩ : ∃ y, st[j]? = some y := ⟨_, List.getElem?_eq_getElem (by have := hk.out; omega)⟩
      obtain ⟨ad, rfl, x0, x1⟩ := (HR.out.up hb.out).at_ hy
      have HY := Go.Lib.hid hy
      have hjl : (j : Int) < (st.length : Int) := by have := hk.out; omega
      have hj0 : (0 : Int) ≤ (j : Int) := by omega
      clear hy
      by_cases hp : 0 < y.1
      · have hp' : decide (0 < y.1) = true := decide_eq_true hp
        have hp'' : decide (y.1 > 0) = true := decide_eq_true hp
        have hn := Go.Lib.hid (show ∀ j' z, j ≤ j' → st[j']? = some z → 0 < z.1 from fun j' z hj' hz => by
          rcases Nat.lt_or_eq_of_le hj' with h | rfl
          · exact hall.out j' z h hz
          · rw [HY.out] at hz; cases hz; exact hp)
        clear hp hall
        go_wp2_with fail
        go_roundg j
        case measure => omega
        case rel => exact ⟨j, rfl, rfl, Go.Lib.hid (by have := hk.out; omega), hn, hb⟩
      · have hp' : decide (0 < y.1) = false := decide_eq_false hp
        have hp'' : decide (y.1 > 0) = false := decide_eq_false hp
        have HP := Go.Lib.hid (show ¬ 0 < y.1 from hp)
        clear hp
        go_wp2_with fail
        all_goals
          go_ret
          refine ⟨⟨_, _, j + 1, by first | rfl | (rw [List.length_drop]; rfl), ?_, blk_drop hk.out hall.out (fun j' z h hz => ?_)⟩, hb.out⟩
          · have h := (HR.out.up hb.out).drop (m := j + 1) (c := cs) hk.out HC.out
            first
              | (rw [if_pos (by assumption)] at h; exact h)
              | (rw [if_neg (by assumption)] at h; exact h)
          · obtain rfl : j' = j := by omega
            rw [HY.out] at hz
            cases hz
            exact Int.not_lt.mpr HP.out
end Go.Proofs.Ytchbjjefjmcakaa.Lb
