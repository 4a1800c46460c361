import Derived.Test.YtijjebogbjaeiaaSj
import Derived.Test.YtijjebogbjaeiaaPStoreScriptx1
import Derived.Test.YtijjebogbjaeiaaPStoreScriptx2
import Derived.Test.YtijjebogbjaeiaaPStoreScriptx4
import Derived.Lib.Strings
namespace Go.Proofs.Ytijjebogbjaeiaa.St
open Go.Shelf Go.RowKit Go.Proofs.Ytijjebogbjaeiaa.PStoreScript Go.Proofs.YtijjebogbjaeiaaW.PrintWords Go.Proofs.YtijjebogbjaeiaaW.PrintLast Go.Proofs.YtijjebogbjaeiaaW.PrintMore
set_option linter.unusedVariables false
set_option linter.unusedSimpArgs false

theorem toList_inj {a b : ByteArray} : a.toList = b.toList ↔ a = b := by
  constructor
  · intro h
    rw [Go.Lib.toList_data, Go.Lib.toList_data] at h
    exact kl_inj (by unfold kl; rw [h])
  · rintro rfl; rfl
theorem w64 {n : Int} (h0 : -9223372036854775808 ≤ n) (h1 : n ≤ 9223372036854775807) : wrap64 n = n := by
  rw [← Go.IntWalk.i64_left]; exact wrap_id h0 h1
theorem rd_nat (l : List S45) (i : Nat) (hi : i < l.length) : rd_T45 l (i : Int) = l[i] := by
  unfold rd_T45
  rw [Int.toNat_natCast, List.getD_eq_getElem?_getD, List.getElem?_eq_getElem hi]; rfl

def wo (l : List S45) (a : ByteArray) : List S45 := l.filter (fun y => decide (y.f0 ≠ a))

theorem wo_l0 (l : List S45) (a : ByteArray) (hl : l.length ≤ 16777217) : ∀ (n i : Nat) (acc : List S45) (k : Nat), i + n = l.length → n < k → acc.length ≤ i →
    provenanceref1_without.l0 k a acc l (l.length : Int) (i : Int) = some (acc ++ wo (l.drop i) a)
  | 0, i, acc, k, hi, hk, ha => by
    obtain ⟨k, rfl⟩ : ∃ j, k = j + 1 := ⟨k - 1, by omega⟩
    unfold provenanceref1_without.l0
    rw [if_neg (by omega), List.drop_of_length_le (by omega)]
    simp [wo]
  | n + 1, i, acc, k, hi, hk, ha => by
    obtain ⟨k, rfl⟩ : ∃ j, k = j + 1 := ⟨k - 1, by omega⟩
    have hlt : i < l.length := by omega
    unfold provenanceref1_without.l0
    rw [if_pos (by omega), if_pos (by omega), if_pos (by omega), rd_nat l i hlt, w64 (by omega) (by omega), show (i : Int) + 1 = ((i + 1 : Nat) : Int) by omega]
    rw [List.drop_eq_getElem_cons hlt]
    by_cases he : l[i].f0 = a
    · rw [if_pos (toList_inj.2 he), wo_l0 l a hl n (i + 1) acc k (by omega) (by omega) (by omega)]
      unfold wo
      rw [List.filter_cons, if_neg (by simp [he])]
    · rw [if_neg (fun h => he (toList_inj.1 h)), if_pos (by omega), wo_l0 l a hl n (i + 1) _ k (by omega) (by omega) (by simp; omega)]
      unfold wo
      rw [List.filter_cons, if_pos (by simp [he])]
      simp
theorem wo_f (l : List S45) (a : ByteArray) (hl : l.length ≤ 16777217) (k : Nat) (hk : l.length < k) : provenanceref1_without.f k l a = some (wo l a) := by
  unfold provenanceref1_without.f
  have := wo_l0 l a hl l.length 0 [] k (by omega) hk (by simp)
  simpa using this

def sz5 (l : List S45) : List Nat := l.map (fun x => x.f0.size + x.f1.size)
theorem by_l0 (l : List S45) (hl : l.length ≤ 16777217) (hs : sm (sz5 l) ≤ 281474976710656) : ∀ (n i : Nat) (s : Int) (k : Nat), i + n = l.length → n < k → 0 ≤ s → s + sm (sz5 (l.drop i)) ≤ 281474976710656 →
    provenanceref1_Kept_Bytes.l0 k s l (l.length : Int) (i : Int) = some (s + sm (sz5 (l.drop i)))
  | 0, i, s, k, hi, hk, h0, h1 => by
    obtain ⟨k, rfl⟩ : ∃ j, k = j + 1 := ⟨k - 1, by omega⟩
    unfold provenanceref1_Kept_Bytes.l0
    rw [if_neg (by omega), List.drop_of_length_le (by omega)]
    simp [sz5, sm]
  | n + 1, i, s, k, hi, hk, h0, h1 => by
    obtain ⟨k, rfl⟩ : ∃ j, k = j + 1 := ⟨k - 1, by omega⟩
    have hlt : i < l.length := by omega
    rw [List.drop_eq_getElem_cons hlt] at h1 ⊢
    simp only [sz5, List.map_cons, sm] at h1 ⊢
    have h2 := sm_nonneg (sz5 (l.drop (i + 1)))
    simp only [sz5] at h2
    unfold provenanceref1_Kept_Bytes.l0
    rw [if_pos (by omega), if_pos (by omega), if_pos (by omega), rd_nat l i hlt, w64 (n := (i : Int) + 1) (by omega) (by omega), show (i : Int) + 1 = ((i + 1 : Nat) : Int) by omega]
    rw [w64 (n := (l[i].f0.size : Int) + (l[i].f1.size : Int)) (by omega) (by omega), w64 (by omega) (by omega)]
    rw [by_l0 l hl hs n (i + 1) _ k (by omega) (by omega) (by omega) (by simp only [sz5]; omega)]
    simp only [sz5]
    congr 1
    omega
theorem by_f (l : List S45) (room : Int) (hl : l.length ≤ 16777217) (hs : sm (sz5 l) ≤ 281474976710656) (k : Nat) (hk : l.length < k) : provenanceref1_Kept_Bytes.f k room l = some (sm (sz5 l)) := by
  unfold provenanceref1_Kept_Bytes.f
  have := by_l0 l hl hs l.length 0 0 k (by omega) hk (by omega) (by simpa using hs)
  simpa using this

theorem get_l0_none (room : Int) (l l2 : List S45) (a : ByteArray) (hl : l.length ≤ 16777217) (hno : ∀ x ∈ l, x.f0 ≠ a) : ∀ (n i : Nat) (k : Nat), i + n = l.length → n < k →
    provenanceref1_Kept_Get.l0 k a l (l.length : Int) (i : Int) room l2 = some (room, l2, ⟨#[]⟩, 12)
  | 0, i, k, hi, hk => by
    obtain ⟨k, rfl⟩ : ∃ j, k = j + 1 := ⟨k - 1, by omega⟩
    unfold provenanceref1_Kept_Get.l0
    rw [if_neg (by omega)]
  | n + 1, i, k, hi, hk => by
    obtain ⟨k, rfl⟩ : ∃ j, k = j + 1 := ⟨k - 1, by omega⟩
    have hlt : i < l.length := by omega
    unfold provenanceref1_Kept_Get.l0
    rw [if_pos (by omega), if_pos (by omega), if_pos (by omega), rd_nat l i hlt, if_neg (fun h => hno _ (List.getElem_mem hlt) (toList_inj.1 h)), w64 (by omega) (by omega), show (i : Int) + 1 = ((i + 1 : Nat) : Int) by omega]
    exact get_l0_none room l l2 a hl hno n (i + 1) k (by omega) (by omega)
theorem get_f_none (room : Int) (l : List S45) (a : ByteArray) (hl : l.length ≤ 16777217) (hno : ∀ x ∈ l, x.f0 ≠ a) (k : Nat) (hk : l.length < k) : provenanceref1_Kept_Get.f k room l a = some (room, l, ⟨#[]⟩, 12) := by
  unfold provenanceref1_Kept_Get.f
  exact get_l0_none room l l a hl hno l.length 0 k (by omega) hk

theorem get_l0_some (room : Int) (p q : List S45) (x : S45) (hl : (p ++ x :: q).length ≤ 16777217) (hno : ∀ y ∈ p, y.f0 ≠ x.f0) : ∀ (n i : Nat) (k : Nat), i + n = p.length → n + (p ++ x :: q).length + 1 < k →
    provenanceref1_Kept_Get.l0 k x.f0 (p ++ x :: q) ((p ++ x :: q).length : Int) (i : Int) room (p ++ x :: q) = some (room, x :: wo (p ++ x :: q) x.f0, x.f1, 0)
  | 0, i, k, hi, hk => by
    obtain ⟨k, rfl⟩ : ∃ j, k = j + 1 := ⟨k - 1, by omega⟩
    have hlt : i < (p ++ x :: q).length := by simp; omega
    have hi' : i = p.length := by omega
    have hx : (p ++ x :: q)[i] = x := by subst hi'; simp
    have hw : (wo (p ++ x :: q) x.f0).length ≤ (p ++ x :: q).length := List.length_filter_le _ _
    unfold provenanceref1_Kept_Get.l0
    rw [if_pos (by omega), if_pos (by omega), if_pos (by omega), rd_nat _ i hlt, hx, if_pos rfl, wo_f _ _ hl k (by omega)]
    simp only [Option.bind_some, List.length_cons, List.length_nil]
    rw [if_pos (by omega)]
    rfl
  | n + 1, i, k, hi, hk => by
    obtain ⟨k, rfl⟩ : ∃ j, k = j + 1 := ⟨k - 1, by omega⟩
    have hlt : i < (p ++ x :: q).length := by simp; omega
    have hx : (p ++ x :: q)[i] = p[i]'(by omega) := List.getElem_append_left (by omega)
    unfold provenanceref1_Kept_Get.l0
    rw [if_pos (by omega), if_pos (by omega), if_pos (by omega), rd_nat _ i hlt, hx, if_neg (fun h => hno _ (List.getElem_mem _) (toList_inj.1 h)), w64 (by omega) (by omega), show (i : Int) + 1 = ((i + 1 : Nat) : Int) by omega]
    exact get_l0_some room p q x hl hno n (i + 1) k (by omega) (by omega)
theorem get_f_some (room : Int) (p q : List S45) (x : S45) (hl : (p ++ x :: q).length ≤ 16777217) (hno : ∀ y ∈ p, y.f0 ≠ x.f0) (k : Nat) (hk : p.length + (p ++ x :: q).length + 1 < k) :
    provenanceref1_Kept_Get.f k room (p ++ x :: q) x.f0 = some (room, x :: wo (p ++ x :: q) x.f0, x.f1, 0) := by
  unfold provenanceref1_Kept_Get.f
  exact get_l0_some room p q x hl hno p.length 0 k (by omega) hk

theorem drop_f (room : Int) (l : List S45) (a : ByteArray) (hl : l.length ≤ 16777217) (k : Nat) (hk : l.length < k) :
    provenanceref1_Kept_Drop.f k room l a = some (if (wo l a).length = l.length then (room, l, 12) else (room, wo l a, 0)) := by
  unfold provenanceref1_Kept_Drop.f
  rw [wo_f l a hl k hk, Option.bind_some]
  by_cases h : (wo l a).length = l.length
  · rw [if_pos (by omega), if_pos h]
  · rw [if_neg (by omega), if_neg h]
end Go.Proofs.Ytijjebogbjaeiaa.St
