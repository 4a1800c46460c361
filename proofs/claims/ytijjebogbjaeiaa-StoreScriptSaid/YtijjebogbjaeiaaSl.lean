import Derived.Test.YtijjebogbjaeiaaSk
import Derived.Test.YtijjebogbjaeiaaSx
namespace Go.Proofs.Ytijjebogbjaeiaa.St
open Go.Shelf Go.RowKit Go.Proofs.Ytijjebogbjaeiaa.PStoreScript Go.Proofs.YtijjebogbjaeiaaW.PrintWords Go.Proofs.YtijjebogbjaeiaaW.PrintLast Go.Proofs.YtijjebogbjaeiaaW.PrintMore
set_option linter.unusedVariables false
set_option linter.unusedSimpArgs false

theorem put_f_full (room : Int) (l : List S45) (a v : ByteArray) (ha : a.size = 1) (hv : v.size ≤ 281474976710656) (h : room < (a.size : Int) + (v.size : Int)) (k : Nat) : provenanceref1_Kept_Put.f k room l a v = some (room, l, [], 16) := by
  unfold provenanceref1_Kept_Put.f
  rw [w64 (by omega) (by omega), if_pos h]

theorem sz5_take (l : List S45) (j : Nat) : sz5 (l.take j) = (sz5 l).take j := by simp [sz5, List.map_take]

theorem put_l0 (room : Int) (c : S45) (l1 : List S45) (hroom : room ≤ 16777216) (hl : l1.length ≤ 16777216) (hc : (c.f0.size : Int) + (c.f1.size : Int) ≤ room) (hs : sm (sz5 l1) ≤ 16777216) (N : Nat) (hN : N = fitN (room - ((c.f0.size : Int) + (c.f1.size : Int))) (sz5 l1)) :
    ∀ (j : Nat) (gs : List ByteArray) (k : Nat), j ≤ l1.length → N ≤ j → gs = ((l1.drop j).map S45.f0).reverse → j + l1.length + 3 < k →
    provenanceref1_Kept_Put.l0 k gs room (c :: l1.take j) = some (room, c :: l1.take N, ((l1.drop N).map S45.f0).reverse, 0) := by
  have hbytes : ∀ (j k : Nat), j ≤ l1.length → j + 1 < k → provenanceref1_Kept_Bytes.f k room (c :: l1.take j) = some ((c.f0.size : Int) + (c.f1.size : Int) + sm (sz5 (l1.take j))) := by
    intro j k hj hk
    have h1 : sm (sz5 (l1.take j)) ≤ sm (sz5 l1) := by
      have h2 : ∀ (r : List Nat) (j : Nat), sm (r.take j) ≤ sm r := by
        intro r
        induction r with
        | nil => intro j; simp
        | cons s r ih =>
          intro j
          cases j with
          | zero => simpa [sm] using sm_nonneg (s :: r)
          | succ j => simp only [List.take_succ_cons, sm]; have := ih j; omega
      rw [sz5_take]; exact h2 _ _
    have h3 : sm (sz5 (c :: l1.take j)) = (c.f0.size : Int) + (c.f1.size : Int) + sm (sz5 (l1.take j)) := by simp [sz5, sm]
    rw [by_f _ room (by simp; omega) (by rw [h3]; omega) k (by simp; omega), h3]
  intro j
  induction j with
  | zero =>
    intro gs k hj hNj hgs hk
    obtain ⟨k, rfl⟩ : ∃ i, k = i + 1 := ⟨k - 1, by omega⟩
    unfold provenanceref1_Kept_Put.l0
    rw [hbytes 0 k (by omega) (by omega), Option.bind_some, if_neg (by simp [sz5, sm]; omega)]
    have : N = 0 := by omega
    rw [this, hgs]
  | succ j ih =>
    intro gs k hj hNj hgs hk
    obtain ⟨k, rfl⟩ : ∃ i, k = i + 1 := ⟨k - 1, by omega⟩
    have hlt : j < l1.length := by omega
    unfold provenanceref1_Kept_Put.l0
    rw [hbytes (j + 1) k (by omega) (by omega), Option.bind_some]
    by_cases hov : (c.f0.size : Int) + (c.f1.size : Int) + sm (sz5 (l1.take (j + 1))) > room
    · have hNj' : N ≤ j := by
        refine Nat.le_of_not_lt (fun h => ?_)
        have h1 := fitN_fits (room - ((c.f0.size : Int) + (c.f1.size : Int))) (sz5 l1) (by omega)
        have h2 : N = j + 1 := by omega
        rw [← hN, h2, ← sz5_take] at h1
        omega
      have hlen : (c :: l1.take (j + 1)).length = j + 2 := by simp; omega
      have hw : wrap64 (((c :: l1.take (j + 1)).length : Int) - 1) = ((j + 1 : Nat) : Int) := by rw [hlen, w64 (by omega) (by omega)]; omega
      have hrd : rd_T45 (c :: l1.take (j + 1)) ((j + 1 : Nat) : Int) = l1[j] := by
        rw [rd_nat _ (j + 1) (by omega)]
        simp
      have hgl : gs.length ≤ 16777216 := by rw [hgs]; simp; omega
      rw [if_pos hov, hw, hrd, if_pos (by omega), if_pos (by omega), if_pos (by omega), if_pos (by omega)]
      have htk : (c :: l1.take (j + 1)).take ((j + 1 : Nat) : Int).toNat = c :: l1.take j := by
        rw [Int.toNat_natCast, List.take_succ_cons, List.take_take]
        congr 2
        omega
      rw [htk]
      refine ih _ k (by omega) hNj' ?_ (by omega)
      rw [hgs, List.drop_eq_getElem_cons hlt, List.map_cons, List.reverse_cons]
    · rw [if_neg hov]
      have h2 := fitN_max (room - ((c.f0.size : Int) + (c.f1.size : Int))) (sz5 l1) (j + 1) (by simp [sz5]; omega) (by rw [← sz5_take]; omega)
      have h3 : N = j + 1 := by omega
      rw [h3, hgs]

theorem put_f_ok (room : Int) (l : List S45) (a v : ByteArray) (ha : a.size = 1) (hroom : room ≤ 16777216) (h : (a.size : Int) + (v.size : Int) ≤ room) (hl : l.length ≤ 16777216) (hs : sm (sz5 (wo l a)) ≤ 16777216) (k : Nat) (hk : l.length + l.length + 4 < k) :
    provenanceref1_Kept_Put.f k room l a v = some (room, ⟨a, v⟩ :: (wo l a).take (fitN (room - ((a.size : Int) + (v.size : Int))) (sz5 (wo l a))), (((wo l a).drop (fitN (room - ((a.size : Int) + (v.size : Int))) (sz5 (wo l a)))).map S45.f0).reverse, 0) := by
  have hw : (wo l a).length ≤ l.length := List.length_filter_le _ _
  unfold provenanceref1_Kept_Put.f
  rw [w64 (by omega) (by omega), if_neg (by omega), Option.bind_some, wo_f l a (by omega) k (by omega), Option.bind_some, if_pos (by simp; omega)]
  have := put_l0 room ⟨a, v⟩ (wo l a) hroom (by omega) h hs _ rfl (wo l a).length [] k (Nat.le_refl _) (by have := fitN_le (room - ((a.size : Int) + (v.size : Int))) (sz5 (wo l a)); simpa [sz5] using this) (by simp) (by omega)
  rw [List.take_length] at this
  exact this

theorem eqs_l0 (l : List ByteArray) (hl : l.length ≤ 16777217) : ∀ (n i : Nat) (k : Nat), i + n = l.length → n < k → slices_Equal_string_string.l0 k l l (l.length : Int) (i : Int) = some true
  | 0, i, k, hi, hk => by
    obtain ⟨k, rfl⟩ : ∃ j, k = j + 1 := ⟨k - 1, by omega⟩
    unfold slices_Equal_string_string.l0
    rw [if_neg (by omega)]
  | n + 1, i, k, hi, hk => by
    obtain ⟨k, rfl⟩ : ∃ j, k = j + 1 := ⟨k - 1, by omega⟩
    unfold slices_Equal_string_string.l0
    rw [if_pos (by omega), if_pos (by omega), if_pos (by omega), if_pos (by omega), if_pos rfl, w64 (by omega) (by omega), show (i : Int) + 1 = ((i + 1 : Nat) : Int) by omega]
    exact eqs_l0 l hl n (i + 1) k (by omega) (by omega)
theorem eqs_f (l : List ByteArray) (hl : l.length ≤ 16777217) : slices_Equal_string_string.f (l.length + 1) l l = some true := by
  unfold slices_Equal_string_string.f
  rw [if_pos rfl]
  exact eqs_l0 l hl l.length 0 _ (by omega) (by omega)
end Go.Proofs.Ytijjebogbjaeiaa.St
