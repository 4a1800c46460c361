import Derived.Test.YtemdfhaceddmpaaTb
import Derived.Deep.CutRange
import Derived.StillTailTactics
import Derived.Deep.DeepCutAuto
import Derived.Deep.CutBlock
import Derived.Deep.QuietTactic
namespace Go.Proofs.Ytemdfhaceddmpaa.Tr
open Go.Shelf Go.RowKit Go.Proofs.Ytemdfhaceddmpaa.PPrinterTells Go.Proofs.YtemdfhaceddmpaaW.PrintWords Go.Proofs.YtemdfhaceddmpaaW.PrintLast Go.Proofs.YtemdfhaceddmpaaW.PrintMore
set_option linter.unusedVariables false
set_option linter.unusedSimpArgs false

/-- A shape: letters with their marks (0: none). -/
def enc : List (UInt8 × UInt8) → List UInt8
  | [] => []
  | (c, m) :: r => if m = 0 then c :: enc r else c :: m :: enc r
def okI (x : UInt8 × UInt8) : Prop := ((x.1.toNat : Nat) : Int) ∈ letters ∧ (x.2 = 0 ∨ x.2 = 42 ∨ x.2 = 43 ∨ x.2 = 63)
def hdB (c : UInt8) (l : List Int) : Bool := match l with | [] => false | x :: _ => decide (x ∈ kinds (c.toNat : Nat))
/-- Kinds have a shape. -/
def fit : Nat → List (UInt8 × UInt8) → List Int → Bool
  | 0, _, _ => false
  | _ + 1, [], l => l.isEmpty
  | n + 1, (c, m) :: r, l =>
    if m = 0 then hdB c l && fit n r l.tail
    else if m = 43 then hdB c l && fit n ((c, 42) :: r) l.tail
    else if m = 63 then fit n r l || hdB c l && fit n r l.tail
    else fit n r l || hdB c l && fit n ((c, 42) :: r) l.tail

theorem size_of {s : ByteArray} {t : List UInt8} (h : s.data.toList = t) : s.size = t.length := by rw [← h]; exact (Array.length_toList).symm
theorem ext1 {s : ByteArray} {c : UInt8} {t : List UInt8} (h : s.data.toList = c :: t) : (s.extract 1 s.size).data.toList = t := by
  rw [← Go.Lib.toList_data, Go.Lib.extract_toList, h, size_of h]
  simp
theorem idx0 {s : ByteArray} {c : UInt8} {t : List UInt8} (h : s.data.toList = c :: t) (hs : 0 < s.size) : s[0].toNat = c.toNat := by
  have h1 : s[0] = c := by
    have h2 : s.data.toList[0]? = some c := by rw [h]; rfl
    have h3 : s.data[0]? = some c := by simpa using h2
    exact (Array.getElem?_eq_some_iff.1 h3).2
  rw [h1]

set_option maxHeartbeats 4000000 in
theorem fits_nil (l : List Int) (A : Option Addr) (c : Nat) (w : World) : Calls Try.prog 22 #[.string ⟨#[]⟩, .slice A l.length c] w fun e w' => e = .returned (.bool l.isEmpty) ∧ Below w.heap.size w w' := by
  have hb : ((l.length : Int) == 0) = l.isEmpty := by cases l <;> simp <;> omega
  have HB := Go.Lib.hid hb
  clear hb
  go_enter Try.func22, Try.ntmps22
  go_wp2_with fail
  go_ret
  exact ⟨by rw [← HB.out]; rfl, Below.refl _ _⟩

theorem ne_of_cons {s : ByteArray} {c : UInt8} {t : List UInt8} (h : s.data.toList = c :: t) : s.toList.isEmpty = false ∧ 0 < s.size ∧ (1 : Int) ≤ (s.size : Int) := by
  have h1 := size_of h
  rw [List.length_cons] at h1
  exact ⟨by rw [Go.Lib.toList_data, h]; rfl, by omega, by omega⟩
theorem enc_nil_of {r : List (UInt8 × UInt8)} (h : enc r = []) : r = [] := by
  cases r with
  | nil => rfl
  | cons x r => exfalso; unfold enc at h; split at h <;> cases h
theorem no_mark {z : UInt8} (h : ((z.toNat : Nat) : Int) ∈ letters) : Lib.indexByte [42, 43, 63] z = -1 := by
  have h1 : ∀ n : Fin 256, ((n.val : Nat) : Int) ∈ letters → Lib.indexByte [42, 43, 63] (UInt8.ofNat n.val) = -1 := by decide +kernel
  have h2 := h1 ⟨z.toNat, UInt8.toNat_lt z⟩ h
  rw [show UInt8.ofNat z.toNat = z from UInt8.ofNat_toNat] at h2
  exact h2
theorem tail_C {w : World} {ad : Addr} {x : Int} {l' : List Int} {c : Nat} (h : Kd.C (Kd.int .i64) w (some ad) (x :: l').length (x :: l')) (hc : (x :: l').length ≤ c) :
    Kd.C (Kd.int .i64) w (if c = 1 then some ad else some (ad.add 1)) l'.length l' := by
  have h1 := Kd.C_drop (m := 1) h (by simp) hc
  have h2 : (1 * (Kd.int IntKind.i64).sz) = 1 := rfl
  rw [h2] at h1
  simpa using h1
/-- What the recursion answers. -/
def FIH (n : Nat) : Prop := ∀ (its : List (UInt8 × UInt8)) (l : List Int) (s : ByteArray) (A : Option Addr) (c : Nat) (w : World), its.length + l.length < n → (∀ x ∈ its, okI x) → s.data.toList = enc its → Kd.C (Kd.int .i64) w A l.length l → l.length ≤ c → l.length ≤ 17592186044416 →
  Calls Try.prog 22 #[.string s, .slice A l.length c] w fun e w' => e = .returned (.bool (fit n its l)) ∧ Below w.heap.size w w'

/-- The recursion at the tail of the kinds, at the slice that Go makes of it. -/
def FTl (n : Nat) (l' : List Int) (tv : Value) (w : World) : Prop := ∀ (its : List (UInt8 × UInt8)) (s' : ByteArray) (W : World), Below w.heap.size w W → its.length + l'.length < n → (∀ x ∈ its, okI x) → s'.data.toList = enc its →
  Calls Try.prog 22 #[.string s', tv] W fun e w' => e = .returned (.bool (fit n its l')) ∧ Below W.heap.size W w'
theorem FTl.mk {n c2 : Nat} {l' : List Int} {A2 : Option Addr} {w : World} (h : FIH n) (hC : Kd.C (Kd.int .i64) w A2 l'.length l') (hc : l'.length ≤ c2) (hl : l'.length ≤ 17592186044416) : FTl n l' (.slice A2 l'.length c2) w :=
  fun its s' W hb hn hok hs => h its l' s' A2 c2 W hn hok hs (Kd.C_below hC hb) hc hl

/-- What stands behind a letter: nothing, a letter, or its mark. -/
inductive Nxt (m : UInt8) (r : List (UInt8 × UInt8)) (s1 : ByteArray) : Prop
  | last (hm : m = 0) (he : s1.toList.isEmpty = true) (hr : s1.data.toList = enc r)
  | more (hm : m = 0) (z : UInt8) (he : s1.toList.isEmpty = false) (hp : 0 < s1.size) (hz : s1[0].toNat = z.toNat) (hi : Lib.indexByte [42, 43, 63] z = -1) (hr : s1.data.toList = enc r)
  | mark (hm : m ≠ 0) (he : s1.toList.isEmpty = false) (hp : 0 < s1.size) (hz : s1[0].toNat = m.toNat) (hr : (s1.extract 1 s1.size).data.toList = enc r)
theorem nxt {ch m : UInt8} {r : List (UInt8 × UInt8)} {s s1 : ByteArray} (hs : s.data.toList = enc ((ch, m) :: r)) (h1 : s1 = s.extract 1 s.size) (hok : ∀ x ∈ r, okI x) : Nxt m r s1 := by
  unfold enc at hs
  by_cases hm : m = 0
  · rw [if_pos hm] at hs
    have h2 : s1.data.toList = enc r := by rw [h1]; exact ext1 hs
    rcases r with _ | ⟨⟨y1, y2⟩, r⟩
    · exact .last hm (by rw [Go.Lib.toList_data, h2]; rfl) h2
    · obtain ⟨t1, ht1⟩ : ∃ t1, s1.data.toList = y1 :: t1 := by
        rw [h2]; unfold enc; split
        · exact ⟨_, rfl⟩
        · exact ⟨_, rfl⟩
      obtain ⟨a, b, -⟩ := ne_of_cons ht1
      exact .more hm y1 a b (idx0 ht1 b) (no_mark (hok (y1, y2) (by simp)).1) h2
  · rw [if_neg hm] at hs
    have h2 : s1.data.toList = m :: enc r := by rw [h1]; exact ext1 hs
    obtain ⟨a, b, -⟩ := ne_of_cons h2
    exact .mark hm a b (idx0 h2 b) (ext1 h2)
theorem mark_ix {m : UInt8} (hm : m = 42 ∨ m = 43 ∨ m = 63) : ∃ i : Int, 0 ≤ i ∧ i < 3 ∧ Lib.indexByte [42, 43, 63] m = i := by
  rcases hm with rfl | rfl | rfl
  · exact ⟨0, by decide, by decide, by decide⟩
  · exact ⟨1, by decide, by decide, by decide⟩
  · exact ⟨2, by decide, by decide, by decide⟩
theorem ix_calls {z : UInt8} {i : Int} (h : Lib.indexByte [42, 43, 63] z = i) (W : World) : Calls Try.prog 34 #[.string ⟨#[42, 43, 63]⟩, .int .u8 ((z.toNat : Nat) : Int)] W fun e w' => e = .returned (.int .i64 i) ∧ w' = W := by
  have h1 := index_calls ⟨#[42, 43, 63]⟩ ((z.toNat : Nat) : Int) W
  rw [show (⟨#[42, 43, 63]⟩ : ByteArray).data.toList = [42, 43, 63] from rfl, Int.toNat_natCast, show z.toNat.toUInt8 = z from UInt8.toNat.inj (by simp), h] at h1
  exact h1
end Go.Proofs.Ytemdfhaceddmpaa.Tr
