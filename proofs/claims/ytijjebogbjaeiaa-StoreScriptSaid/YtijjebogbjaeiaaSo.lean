import Derived.Test.YtijjebogbjaeiaaSm
namespace Go.Proofs.Ytijjebogbjaeiaa.St
open Go.Shelf Go.RowKit Go.Proofs.Ytijjebogbjaeiaa.PStoreScript Go.Proofs.YtijjebogbjaeiaaW.PrintWords Go.Proofs.YtijjebogbjaeiaaW.PrintLast Go.Proofs.YtijjebogbjaeiaaW.PrintMore
set_option linter.unusedVariables false
set_option linter.unusedSimpArgs false

/-- The world behind the store into the box. -/
def W2 (w : World) (gb : Nat) (room : Int) (A : Option Addr) (n c : Nat) : World := (w.setCell ⟨gb, 0, none⟩ (.int .i64 room)).setCell ⟨gb, 1, none⟩ (.slice A n c)

section
variable {w0 w : World} {sb rb mb gb : Nat} {room : Int} {its : List It} {xs xs' : List S45} {A : Option Addr} {c K : Nat} {key value v : ByteArray} {e : Int} {gs : List ByteArray}

theorem kget_calls (h : J w0 w sb rb mb gb room its xs A c) (hf : provenanceref1_Kept_Get.f K room xs key = some (room, xs', v, e)) :
    Calls Try.prog 8 #[.agg #[.int .i64 room, .slice A xs.length c], .string key] w fun e' w' => ∃ A' c', e' = .returned (.tuple #[.agg #[.int .i64 room, .slice A' xs'.length c'], .string v, .int .i64 e]) ∧ w'.heap[gb]? = some (kob room A xs.length c) ∧ J w0 (W2 w' gb room A' xs'.length c') sb rb mb gb room its xs' A' c' := by
  refine (provenanceref1_Kept_Get.calls K room _ _ xs key room xs' v e w0 w h.below h.tight hf).mono ?_
  rintro e' w' ⟨v1, rfl, hr, hb, hk⟩
  obtain ⟨A', c', rfl⟩ := Kd.R_slice hr
  exact ⟨A', c', rfl, blk_kept h.box hk (fun hm => hm.2.2 rfl), h.kept hr hb hk⟩

theorem kdrop_calls (h : J w0 w sb rb mb gb room its xs A c) (hf : provenanceref1_Kept_Drop.f K room xs key = some (room, xs', e)) :
    Calls Try.prog 9 #[.agg #[.int .i64 room, .slice A xs.length c], .string key] w fun e' w' => ∃ A' c', e' = .returned (.tuple #[.agg #[.int .i64 room, .slice A' xs'.length c'], .int .i64 e]) ∧ w'.heap[gb]? = some (kob room A xs.length c) ∧ J w0 (W2 w' gb room A' xs'.length c') sb rb mb gb room its xs' A' c' := by
  refine (provenanceref1_Kept_Drop.calls K room _ _ xs key room xs' e w0 w h.below h.tight hf).mono ?_
  rintro e' w' ⟨v1, rfl, hr, hb, hk⟩
  obtain ⟨A', c', rfl⟩ := Kd.R_slice hr
  exact ⟨A', c', rfl, blk_kept h.box hk (fun hm => hm.2.2 rfl), h.kept hr hb hk⟩

theorem kput_calls {B0 : Nat} {va : Value} {n : Nat} {cs : List Value} (h : J w0 w sb rb mb gb room its xs A c) (hf : provenanceref1_Kept_Put.f K room xs key value = some (room, xs', gs, e)) (ha : w.ownsRow B0 9 1 va n cs) (hA : ∀ k, some k = (Value.slice A xs.length c).ownBlock → k < B0) (hg : gb < B0) :
    Calls Try.prog 11 #[.agg #[.int .i64 room, .slice A xs.length c], .string key, .string value] w fun e' w' => ∃ A' c' Ab cb, e' = .returned (.tuple #[.agg #[.int .i64 room, .slice A' xs'.length c'], .slice Ab gs.length cb, .int .i64 e]) ∧ w'.heap[gb]? = some (kob room A xs.length c) ∧ J w0 (W2 w' gb room A' xs'.length c') sb rb mb gb room its xs' A' c' ∧
      (Kd.C Kd.string (W2 w' gb room A' xs'.length c') Ab gs.length gs ∧ gs.length ≤ cb) ∧ (W2 w' gb room A' xs'.length c').ownsRow B0 9 1 va n cs := by
  refine (provenanceref1_Kept_Put.calls K room _ _ xs key value room xs' gs e w0 w h.below h.tight hf).mono ?_
  rintro e' w' ⟨v1, v2, rfl, hr, hr2, hb, hk⟩
  obtain ⟨A', c', rfl⟩ := Kd.R_slice hr
  obtain ⟨Ab, cb, rfl⟩ := Kd.R_slice hr2
  have hgb := blk_lt h.box
  have ks : Kept w' (W2 w' gb room A' xs'.length c') (fun k => k = gb) := ((Kept.refl w' (fun k => k = gb)).setCell (p := ⟨gb, 0, none⟩) (Or.inl rfl) _).setCell (p := ⟨gb, 1, none⟩) (Or.inl rfl) _
  have hr3 := Kd.R_kept hr2 ks (fun k hk' e => by
    subst e
    rcases hk' with h1 | h1
    · exact h1.2.2 rfl
    · omega)
  obtain ⟨-, h4, h5⟩ := Kd.R_reads' hr3
  refine ⟨A', c', Ab, cb, rfl, blk_kept h.box hk (fun hm => hm.2.2 rfl), h.kept hr hb hk, ⟨h5, h4⟩, ?_⟩
  refine own_kept (own_kept ha hk (fun k hk' hm => ?_)) ks (fun k hk' e => by omega)
  have := hA k hm.1
  omega
end

theorem J.row_lt {w0 w : World} {sb rb mb gk : Nat} {room : Int} {its : List It} {xs : List S45} {A : Option Addr} {c : Nat} (h : J w0 w sb rb mb gk room its xs A c) : ∀ k, some k = (Value.slice A xs.length c).ownBlock → k < w.heap.size := by
  intro k hk
  obtain ⟨inner, ho⟩ := Kd.R_own h.row
  exact own_lt ho k hk.symm

theorem find_it (its : List It) (key : ByteArray) : (∀ x ∈ its, x.k ≠ key) ∨ ∃ p x q, its = p ++ x :: q ∧ x.k = key := by
  by_cases hex : ∃ x ∈ its, x.k = key
  · obtain ⟨x, hx, e⟩ := hex
    obtain ⟨p, q, e2⟩ := List.append_of_mem hx
    exact Or.inr ⟨p, x, q, e2, e⟩
  · exact Or.inl (fun x hx e => hex ⟨x, hx, e⟩)

/-- What the reference answers at the same call. -/
theorem kget_none {its : List It} {xs : List S45} {room : Int} {key : ByteArray} (hx : xs = its.map pr) (hl : its.length ≤ 16777216) (hno : ∀ x ∈ its, x.k ≠ key) : provenanceref1_Kept_Get.f (xs.length + 1) room xs key = some (room, xs, ⟨#[]⟩, 12) :=
  get_f_none room xs key (by rw [hx]; simp; omega) (fun y hy => by
    rw [hx] at hy
    obtain ⟨z, hz, rfl⟩ := List.mem_map.1 hy
    exact hno z hz) _ (by omega)
theorem kget_some {p q : List It} {x : It} {xs : List S45} {room : Int} (hx : xs = (p ++ x :: q).map pr) (hl : (p ++ x :: q).length ≤ 16777216) (hn : ((p ++ x :: q).map It.k).Nodup) : provenanceref1_Kept_Get.f (xs.length + xs.length + 2) room xs x.k = some (room, (x :: (p ++ q)).map pr, x.v, 0) := by
  have h1 : wo xs x.k = (p ++ q).map pr := by rw [hx, wo_pr, filter_some hn]
  have h2 : xs = p.map pr ++ pr x :: q.map pr := by rw [hx]; simp
  have h3 : ∀ y ∈ p.map pr, y.f0 ≠ (pr x).f0 := by
    intro y hy e
    obtain ⟨z, hz, rfl⟩ := List.mem_map.1 hy
    rw [List.map_append, List.map_cons] at hn
    exact (nodup_mid hn).1 (List.mem_append_left _ (List.mem_map.2 ⟨z, hz, e⟩))
  have h6 : (p.map pr).length ≤ xs.length := by rw [h2]; simp
  have h7 : xs.length ≤ 16777216 := by rw [hx, List.length_map]; exact hl
  have h4 := get_f_some room (p.map pr) (q.map pr) (pr x) (by rw [← h2]; omega) h3 (xs.length + xs.length + 2) (by rw [← h2]; omega)
  rw [← h2] at h4
  have h5 : wo xs (pr x).f0 = (p ++ q).map pr := h1
  rw [h5] at h4
  exact h4
theorem kdrop_none {its : List It} {xs : List S45} {room : Int} {key : ByteArray} (hx : xs = its.map pr) (hl : its.length ≤ 16777216) (hno : ∀ x ∈ its, x.k ≠ key) : provenanceref1_Kept_Drop.f (xs.length + 1) room xs key = some (room, xs, 12) := by
  rw [drop_f room xs key (by rw [hx]; simp; omega) _ (by omega), if_pos (by rw [hx, wo_pr, filter_none hno])]
theorem kdrop_some {p q : List It} {x : It} {xs : List S45} {room : Int} (hx : xs = (p ++ x :: q).map pr) (hl : (p ++ x :: q).length ≤ 16777216) (hn : ((p ++ x :: q).map It.k).Nodup) : provenanceref1_Kept_Drop.f (xs.length + 1) room xs x.k = some (room, (p ++ q).map pr, 0) := by
  have h1 : wo xs x.k = (p ++ q).map pr := by rw [hx, wo_pr, filter_some hn]
  rw [drop_f room xs x.k (by rw [hx, List.length_map]; omega) _ (by omega), h1, if_neg (by rw [hx]; simp)]
theorem kput_full {xs : List S45} {room : Int} {key value : ByteArray} (hk : key.size = 1) (hv : value.size ≤ 281474976710656) (h : room < (key.size : Int) + (value.size : Int)) : provenanceref1_Kept_Put.f 1 room xs key value = some (room, xs, [], 16) := put_f_full room xs key value hk hv h 1
theorem tot_filter : ∀ (its : List It) (key : ByteArray), tot (its.filter (fun x => decide (x.k ≠ key))) ≤ tot its
  | [], key => by simp [tot]
  | x :: r, key => by
    have h1 := tot_filter r key
    rw [List.filter_cons]
    split
    · simp only [tot]; omega
    · simp only [tot]; omega
theorem kput_ok {its its1 : List It} {xs : List S45} {room : Int} {key value : ByteArray} {N bx : Nat} (hx : xs = its.map pr) (hl : its.length ≤ 16777216) (ht : tot its ≤ 16777216) (hroom : room ≤ 16777216) (hk : key.size = 1) (h : (key.size : Int) + (value.size : Int) ≤ room)
    (hi : its1 = its.filter (fun x => decide (x.k ≠ key))) (hN : N = fitN (room - ((key.size : Int) + (value.size : Int))) (szs its1)) :
    provenanceref1_Kept_Put.f (xs.length + xs.length + 5) room xs key value = some (room, (⟨key, value, bx⟩ :: its1.take N : List It).map pr, ((its1.drop N).map It.k).reverse, 0) := by
  have h1 : wo xs key = its1.map pr := by rw [hx, wo_pr, hi]
  have h2 := put_f_ok room xs key value hk hroom h (by rw [hx]; simpa using hl) (by rw [h1, sz5_pr, ← tot_sm, hi]; exact Int.le_trans (tot_filter its key) ht) (xs.length + xs.length + 5) (by omega)
  rw [h1, sz5_pr, ← hN] at h2
  rw [h2]
  rw [← List.map_drop, keys_pr, ← List.map_take]
  rfl
end Go.Proofs.Ytijjebogbjaeiaa.St
