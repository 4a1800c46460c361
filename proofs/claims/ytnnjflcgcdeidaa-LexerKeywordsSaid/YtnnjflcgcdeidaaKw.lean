/- Whether a string is a keyword or a reserved operator, for the lexer and for the reference: one answer at every string. -/
import Derived.Test.YtnnjflcgcdeidaaProg
import Derived.Test.YtnnjflcgcdeidaaShelf
import Derived.WalkKit
import Derived.WalkSpells
import Derived.KernelRfl
import Derived.RowKit
import Derived.Below
import Derived.Lib.Hide
import Derived.Lib.IndexMore
import Derived.Deep.QuietTactic
import Derived.BigQuiet
namespace Go.Proofs.Ytnnjflcgcdeidaa.Kw
open Go.RowKit Go.Lib

/-! ### plain -/
def KW : List UInt8 := (([32, 109, 111, 100, 117, 108, 101, 32, 105, 109, 112, 111, 114, 116, 32, 101, 120, 112, 111, 114, 116, 32, 100, 97, 116, 97, 32, 99, 108, 97, 115, 115, 32, 105, 110].append [115, 116, 97, 110, 99, 101, 32, 101, 102, 102, 101, 99, 116, 32, 119, 104, 101, 114, 101, 32, 108, 101, 116, 32, 105, 110, 32, 105, 102, 32, 116, 104, 101, 110, 32]).append ([101, 108, 115, 101, 32, 99, 97, 115, 101, 32, 111, 102, 32, 104, 97, 110, 100, 108, 101, 32, 119, 105, 116, 104, 32, 105, 110, 102, 105, 120, 108, 32, 105, 110, 102].append [105, 120, 114, 32, 105, 110, 102, 105, 120, 32, 114, 101, 116, 117, 114, 110, 32, 32, 61, 32, 45, 62, 32, 61, 62, 32, 58, 32, 124, 32, 92, 32, 46, 32, 33, 32]))
def RS : List UInt8 := (([124, 109, 111, 100, 117, 108, 101, 124, 105, 109, 112, 111, 114, 116, 124, 101, 120, 112, 111, 114, 116, 124, 100, 97, 116, 97, 124, 99, 108, 97, 115, 115, 124, 105].append [110, 115, 116, 97, 110, 99, 101, 124, 101, 102, 102, 101, 99, 116, 124, 119, 104, 101, 114, 101, 124, 108, 101, 116, 124, 105, 110, 124, 105, 102, 124, 116, 104, 101, 110]).append ([124, 101, 108, 115, 101, 124, 99, 97, 115, 101, 124, 111, 102, 124, 104, 97, 110, 100, 108, 101, 124, 119, 105, 116, 104, 124, 105, 110, 102, 105, 120, 108, 124, 105].append [110, 102, 105, 120, 114, 124, 105, 110, 102, 105, 120, 124, 114, 101, 116, 117, 114, 110, 124, 61, 124, 45, 62, 124, 61, 62, 124, 58, 124, 92, 124, 46, 124, 33, 124]))

theorem contains_occ (t sub : List UInt8) : contains t sub = true ↔ ∃ i, i ≤ t.length ∧ occAt t sub i = true := by
  unfold contains
  rw [decide_eq_true_eq]
  rcases index_spec t sub with ⟨h1, h2⟩ | ⟨i, h1, h2, h3, _⟩
  · rw [h1]
    constructor
    · intro h; omega
    · rintro ⟨i, hi, ho⟩
      rw [h2 i hi] at ho
      cases ho
  · rw [h1]
    exact ⟨fun _ => ⟨i, h2, h3⟩, fun _ => by omega⟩

theorem noByte (l : List UInt8) (c : UInt8) : (0 ≤ indexByte l c) ↔ c ∈ l := by
  induction l with
  | nil => simp [indexByte]
  | cons b l ih =>
    unfold indexByte
    have hg := indexByte_ge l c
    by_cases h : b = c
    · subst h
      simp
    · have h1 : (b == c) = false := by simp [h]
      have h2 : ¬ c = b := fun e => h e.symm
      rw [h1]
      simp only [Bool.false_eq_true, if_false, List.mem_cons, h2, false_or]
      rw [← ih]
      by_cases h3 : indexByte l c = -1
      · rw [h3]; simp
      · have h4 : (indexByte l c == -1) = false := by simp [h3]
        rw [h4]
        simp only [Bool.false_eq_true, if_false]
        omega

theorem take_upto (c : UInt8) : ∀ (s rest : List UInt8), ¬ c ∈ s → (s ++ c :: rest).takeWhile (· != c) = s
  | [], rest, _ => by simp
  | a :: s, rest, h => by
    have h1 : a ≠ c := fun e => h (by simp [e])
    have h2 : ¬ c ∈ s := fun e => h (by simp [e])
    simp [h1, take_upto c s rest h2]

/-- The words between separators. -/
def segs (c : UInt8) (t : List UInt8) : List (List UInt8) := ((List.range (t.length + 1)).filter fun i => t[i]? == some c).map fun i => (t.drop (i + 1)).takeWhile (· != c)

theorem seg_of (c : UInt8) (t s : List UInt8) (hs : ¬ c ∈ s) (h : contains t (c :: s ++ [c]) = true) : s ∈ segs c t := by
  obtain ⟨i, hi, ho⟩ := (contains_occ _ _).1 h
  have hh := occAt_head (c := c) (t := s ++ [c]) (by simp) ho
  unfold occAt at ho
  rw [List.isPrefixOf_iff_prefix] at ho
  obtain ⟨rest, hr⟩ := ho
  refine List.mem_map.2 ⟨i, List.mem_filter.2 ⟨List.mem_range.2 (by omega), by simp [hh]⟩, ?_⟩
  have : t.drop (i + 1) = s ++ c :: rest := by
    rw [← List.tail_drop, ← hr]
    simp
  rw [this, take_upto c s rest hs]

def kwB (s : List UInt8) : Bool := !s.isEmpty && !(decide (0 ≤ indexByte s 32)) && contains KW ([32] ++ s ++ [32])
def rsB (s : List UInt8) : Bool := (s == [124]) || (!s.isEmpty && (decide (indexByte s 124 < 0) && contains RS ([124] ++ s ++ [124])))

set_option maxRecDepth 100000 in
theorem kw_all : (segs 32 KW).all (fun s => s.isEmpty || rsB s) = true := by decide +kernel
set_option maxRecDepth 100000 in
theorem rs_all : (segs 124 RS).all (fun s => s.isEmpty || kwB s) = true := by decide +kernel

theorem same (s : List UInt8) : kwB s = rsB s := by
  rw [Bool.eq_iff_iff]
  constructor
  · intro h
    have h' := h
    unfold kwB at h'
    simp only [Bool.and_eq_true, Bool.not_eq_true', decide_eq_false_iff_not] at h'
    obtain ⟨⟨h1, h2⟩, h3⟩ := h'
    have hm := seg_of 32 KW s (fun e => h2 ((noByte _ _).2 e)) h3
    have := List.all_eq_true.1 kw_all s hm
    simpa [h1] using this
  · intro h
    have h' := h
    unfold rsB at h'
    rw [Bool.or_eq_true] at h'
    rcases h' with h1 | h1
    · have : s = [124] := by simpa using h1
      subst this
      decide +kernel
    · simp only [Bool.and_eq_true, Bool.not_eq_true', decide_eq_true_eq] at h1
      obtain ⟨h1, h2, h3⟩ := h1
      have hm := seg_of 124 RS s (fun e => by have := (noByte _ _).2 e; omega) h3
      have := List.all_eq_true.1 rs_all s hm
      simpa [h1] using this

/-! ### The walks -/
theorem kw_contains (sub : ByteArray) (m : Int) (w : World) (hm : w.cell? ⟨0, 0, none⟩ = some (.int .i64 m)) :
    Calls Try.prog 90 #[.string { data := KW.toArray }, .string sub] w fun e w' => e = .returned (.bool (contains KW sub.data.toList)) ∧ w' = w :=
  Try.strings_Contains _ sub m w (by decide +kernel) hm
theorem rs_contains (sub : ByteArray) (m : Int) (w : World) (hm : w.cell? ⟨0, 0, none⟩ = some (.int .i64 m)) :
    Calls Try.prog 90 #[.string { data := RS.toArray }, .string sub] w fun e w' => e = .returned (.bool (contains RS sub.data.toList)) ∧ w' = w :=
  Try.strings_Contains _ sub m w (by decide +kernel) hm

theorem ret_bool {a b : Bool} (h : a = b) : Ending.returned (.bool a) = .returned (.bool b) := by rw [h]

/-- The contracts that Keyword takes, with their answers as the walk writes them. -/
theorem keyword_any (s : ByteArray) (m : Int) (w : World) (hs : s.size ≤ 140737488351232) (hm : w.cell? ⟨0, 0, none⟩ = some (.int .i64 m)) :
    Calls Try.prog 59 #[.string s] w fun e w' => e = .returned (.bool (kwB s.data.toList)) ∧ w = w' := by
  by_cases h1 : s.data.toList.isEmpty = true
  · have h2 : s.toList.isEmpty = true := by rw [ByteArray.toList_eq]; exact h1
    have hk := Go.Lib.hid (show false = kwB s.data.toList by unfold kwB; rw [h1]; rfl)
    clear h1
    go_enter Try.func59, Try.ntmps59
    go_wp2_with fail
    go_ret
    exact ⟨ret_bool hk.out, rfl⟩
  · have h2 : s.toList.isEmpty = false := by rw [ByteArray.toList_eq]; simpa using h1
    have h2' : s.data.toList.isEmpty = false := by simpa using h1
    by_cases h3 : 0 ≤ indexByte s.data.toList 32
    · have hk := Go.Lib.hid (show false = kwB s.data.toList by unfold kwB; rw [h2', decide_eq_true h3]; rfl)
      have h4 := Go.Lib.hid (decide_eq_true h3)
      clear h1 h2' h3
      go_enter Try.func59, Try.ntmps59
      go_wp2_with fail
      refine (Try.strings_Contains_one s 32 w).mono ?_
      rw [h4.out]
      rintro e w' ⟨rfl, rfl⟩
      go_wp2_with fail
      go_ret
      exact ⟨ret_bool hk.out, rfl⟩
    · have hk := Go.Lib.hid (show contains KW (32 :: (s.data.toList ++ [32])) = kwB s.data.toList by unfold kwB; rw [h2', decide_eq_false h3]; simp)
      have h4 := Go.Lib.hid (decide_eq_false h3)
      clear h1 h2' h3
      go_enter Try.func59, Try.ntmps59
      go_wp2_with fail
      refine (Try.strings_Contains_one s 32 w).mono ?_
      rw [h4.out]
      rintro e w' ⟨rfl, rfl⟩
      go_wp2_with fail
      refine (kw_contains _ m _ hm).mono ?_
      rintro e w' ⟨rfl, rfl⟩
      go_wp2_with fail
      go_ret
      exact ⟨ret_bool (by rw [← hk.out]), rfl⟩

theorem reserved_any (s : ByteArray) (m : Int) (w : World) (hs : s.size ≤ 140737488351232) (hm : w.cell? ⟨0, 0, none⟩ = some (.int .i64 m)) :
    Calls Try.prog 60 #[.string s] w fun e w' => e = .returned (.bool (rsB s.data.toList)) ∧ w = w' := by
  by_cases h0 : (s.data.toList == [124]) = true
  · have h2 : (s.toList == [124]) = true := by rw [ByteArray.toList_eq]; exact h0
    have hk := Go.Lib.hid (show true = rsB s.data.toList by unfold rsB; rw [h0]; rfl)
    clear h0
    go_enter Try.func60, Try.ntmps60
    go_wp2_with fail
    go_ret
    exact ⟨ret_bool hk.out, rfl⟩
  · have h0' : (s.data.toList == [124]) = false := by simpa using h0
    have h00 : (s.toList == [124]) = false := by rw [ByteArray.toList_eq]; exact h0'
    clear h0
    by_cases h1 : s.data.toList.isEmpty = true
    · have h2 : s.toList.isEmpty = true := by rw [ByteArray.toList_eq]; exact h1
      have hk := Go.Lib.hid (show false = rsB s.data.toList by unfold rsB; rw [h0', h1]; rfl)
      clear h1 h0'
      go_enter Try.func60, Try.ntmps60
      go_wp2_with fail
      go_ret
      exact ⟨ret_bool hk.out, rfl⟩
    · have h2 : s.toList.isEmpty = false := by rw [ByteArray.toList_eq]; simpa using h1
      have h2' : s.data.toList.isEmpty = false := by simpa using h1
      have hi : ∀ w, Calls Try.prog 91 #[.string s, .int .u8 124] w fun e w' => e = .returned (.int .i64 (indexByte s.data.toList 124)) ∧ w' = w := fun w => Try.strings_IndexByte s 124 w
      have Hi := Go.Lib.hid hi
      clear hi
      by_cases h3 : indexByte s.data.toList 124 < 0
      · have hk := Go.Lib.hid (show contains RS (124 :: (s.data.toList ++ [124])) = rsB s.data.toList by unfold rsB; rw [h0', h2', decide_eq_true h3]; simp)
        clear h1 h2' h0'
        go_enter Try.func60, Try.ntmps60
        go_wp2_with fail
        refine (Hi.out w).mono ?_
        generalize indexByte s.data.toList 124 = x at h3 ⊢
        rintro e w' ⟨rfl, rfl⟩
        go_wp2_with fail
        refine (rs_contains _ m _ hm).mono ?_
        rintro e w' ⟨rfl, rfl⟩
        go_wp2_with fail
        go_ret
        exact ⟨ret_bool (by rw [← hk.out]), rfl⟩
      · have hk := Go.Lib.hid (show false = rsB s.data.toList by unfold rsB; rw [h0', h2', decide_eq_false h3]; rfl)
        clear h1 h2' h0'
        go_enter Try.func60, Try.ntmps60
        go_wp2_with fail
        refine (Hi.out w).mono ?_
        generalize indexByte s.data.toList 124 = x at h3 ⊢
        rintro e w' ⟨rfl, rfl⟩
        go_wp2_with fail
        go_ret
        exact ⟨ret_bool hk.out, rfl⟩

theorem kw_where : kwB [119, 104, 101, 114, 101] = true := by decide +kernel

theorem law_walk (s : ByteArray) (m : Int) (w : World) (hs : s.size ≤ 140737488351232) (hm : w.cell? ⟨0, 0, none⟩ = some (.int .i64 m)) :
    Calls Try.prog 12 #[.string s] w fun e w' => e = .returned (.bool true) ∧ Below w.heap.size w w' := by
  have h1 : ∀ w : World, w.cell? ⟨0, 0, none⟩ = some (.int .i64 m) → Calls Try.prog 59 #[.string { data := #[119, 104, 101, 114, 101] }] w fun e w' => e = .returned (.bool true) ∧ w = w' := fun w hm =>
    (keyword_any _ m w (by decide) hm).mono fun e w' ⟨he, hw⟩ => ⟨by rw [he]; exact ret_bool kw_where, hw⟩
  have H1 := Go.Lib.hid h1
  clear h1
  go_enter Try.func12, Try.ntmps12
  go_wp2_with fail
  refine (H1.out _ hm).mono ?_
  rintro e w' ⟨rfl, rfl⟩
  go_wp2_with fail
  refine (keyword_any s m _ hs hm).mono ?_
  rintro e w' ⟨rfl, rfl⟩
  go_wp2_with fail
  refine (reserved_any s m _ hs hm).mono ?_
  rw [← same]
  rintro e w' ⟨rfl, rfl⟩
  go_wp2_with fail
  go_ret
  exact ⟨ret_bool (by simp), Below.refl _ _⟩

theorem law_row (s : ByteArray) (w : World) (hs : s.size ≤ 140737488351232) (hsh : w.ShapedOpen Try.prog) :
    Calls Try.prog 12 #[.string s] w fun e w' => e = .returned (.bool true) ∧ Below w.heap.size w w' := by
  obtain ⟨m, hm⟩ := Try.laysM144.s1_3 w hsh
  exact law_walk s m w hs hm
end Go.Proofs.Ytnnjflcgcdeidaa.Kw
