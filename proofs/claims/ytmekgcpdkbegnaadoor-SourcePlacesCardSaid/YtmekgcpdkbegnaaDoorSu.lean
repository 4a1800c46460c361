import Derived.Test.YtmekgcpdkbegnaaDoorSs
import Derived.Lib.IndexBytes
namespace Go.Proofs.YtmekgcpdkbegnaaDoor.Sp
open Go.RowKit
set_option linter.unusedVariables false
set_option linter.unusedSimpArgs false

theorem ext_drop (s : ByteArray) (a : Nat) : (s.extract a s.size).data.toList = s.data.toList.drop a := by
  simp
  exact List.take_of_length_le (by simp)

theorem indexB_lf (r : ByteArray) : Lib.indexB r LF = Lib.indexByte r.data.toList 10 := Lib.one r LF rfl

/-- What is known of line j + 1, which begins at st and has n bytes. -/
structure LineAt (s : ByteArray) (k j : Nat) : Prop where
  le : start s j + ((lines s).getD j ⟨#[]⟩).size ≤ s.size
  pl : ∀ c, c ≤ ((lines s).getD j ⟨#[]⟩).size → plN s (start s j + c) = ((j : Int) + 1, (c : Int) + 1)
  next : j < k → start s (j + 1) = start s j + ((lines s).getD j ⟨#[]⟩).size + 1 ∧ 0 ≤ Lib.indexByte (s.extract (start s j) s.size).data.toList 10
  last : j = k → start s j + ((lines s).getD j ⟨#[]⟩).size = s.size

theorem byteN_drop (s : ByteArray) (a o : Nat) (b : UInt8) (h : (s.data.toList.drop a)[o]? = some b) : byteN s (a + o) = b.toNat := by
  unfold byteN
  rw [List.getElem?_drop] at h
  rw [List.getD_eq_getElem?_getD, h]
  rfl
theorem byteN_not (s : ByteArray) (a o : Nat) (ho : a + o < s.size) (h : (s.data.toList.drop a)[o]? ≠ some 10) : byteN s (a + o) ≠ 10 := by
  unfold byteN
  rw [List.getElem?_drop] at h
  have hl : a + o < s.data.toList.length := by simpa using ho
  rw [List.getD_eq_getElem?_getD, List.getElem?_eq_getElem hl]
  rw [List.getElem?_eq_getElem hl] at h
  intro h2
  apply h
  have : (s.data.toList[a + o]).toNat = 10 := by exact_mod_cast h2
  exact congrArg some (UInt8.toNat_inj.1 this)

/-- No line feed among n bytes: the columns go on. -/
theorem pl_run (s : ByteArray) (a n : Nat) (x : Int) (h0 : plN s a = (x, 1)) (h : ∀ o, o < n → byteN s (a + o) ≠ 10) : ∀ c, c ≤ n → plN s (a + c) = (x, (c : Int) + 1)
  | 0, _ => by simpa using h0
  | c + 1, hc => by
    have ih := pl_run s a n x h0 h c (by omega)
    show plN s (a + c + 1) = _
    rw [plN, if_neg (h c (by omega)), ih]
    simp

theorem lines_at (s : ByteArray) : ∀ j, j ≤ Lib.countB s LF → start s j ≤ s.size ∧ Lib.countB (s.extract (start s j) s.size) LF + j = Lib.countB s LF ∧ (lines s).drop j = Lib.splitB LF 0 (Lib.countB s LF - j) (s.extract (start s j) s.size) ∧ plN s (start s j) = ((j : Int) + 1, 1) ∧ LineAt s (Lib.countB s LF) j := by
  have main : ∀ j, j ≤ Lib.countB s LF → start s j ≤ s.size ∧ Lib.countB (s.extract (start s j) s.size) LF + j = Lib.countB s LF ∧ (lines s).drop j = Lib.splitB LF 0 (Lib.countB s LF - j) (s.extract (start s j) s.size) ∧ plN s (start s j) = ((j : Int) + 1, 1) →
      LineAt s (Lib.countB s LF) j ∧ (j < Lib.countB s LF → start s (j + 1) ≤ s.size ∧ Lib.countB (s.extract (start s (j + 1)) s.size) LF + (j + 1) = Lib.countB s LF ∧ (lines s).drop (j + 1) = Lib.splitB LF 0 (Lib.countB s LF - (j + 1)) (s.extract (start s (j + 1)) s.size) ∧ plN s (start s (j + 1)) = (((j + 1 : Nat) : Int) + 1, 1)) := by
    intro j hj ⟨h1, h2, h3, h4⟩
    generalize hr : s.extract (start s j) s.size = r at *
    have hrl : r.data.toList = s.data.toList.drop (start s j) := by rw [← hr]; exact ext_drop s _
    have hrs : r.size = s.size - start s j := by
      have := congrArg List.length hrl
      simpa using this
    by_cases hlt : j < Lib.countB s LF
    · have hne : Lib.indexB r LF ≠ -1 := fun h => by have := Lib.countB_miss r LF h; omega
      have hge := Lib.indexByte_ge r.data.toList 10
      rw [indexB_lf] at hne
      obtain ⟨o, ho⟩ : ∃ o : Nat, Lib.indexByte r.data.toList 10 = o := ⟨(Lib.indexByte r.data.toList 10).toNat, by omega⟩
      obtain ⟨hs1, hs2⟩ := Lib.indexByte_some ho
      have hol : o < r.size := by
        have := (List.getElem?_eq_some_iff.1 hs1).1
        simpa using this
      have hoB : Lib.indexB r LF = o := by rw [indexB_lf]; exact ho
      have hst : start s (j + 1) = start s j + o + 1 := by
        rw [start, hr, ho]; omega
      have hext : r.extract (o + LF.size) r.size = s.extract (start s (j + 1)) s.size := by
        apply ByteArray.ext
        apply Array.toList_inj.1
        rw [ext_drop, ext_drop, hrl, List.drop_drop, hst]
        rfl
      have hsp : (lines s).drop j = r.extract 0 (o + 0) :: Lib.splitB LF 0 (Lib.countB s LF - (j + 1)) (s.extract (start s (j + 1)) s.size) := by
        rw [h3, show Lib.countB s LF - j = (Lib.countB s LF - (j + 1)) + 1 by omega, Lib.splitB_hit LF 0 _ r o hoB, hext]
      have hpc : (lines s).getD j ⟨#[]⟩ = r.extract 0 (o + 0) := by
        have := congrArg List.head? hsp
        rw [List.head?_drop] at this
        rw [List.getD_eq_getElem?_getD, this]
        rfl
      have hpz : ((lines s).getD j ⟨#[]⟩).size = o := by rw [hpc]; simp; omega
      have hno : ∀ i, i < o → byteN s (start s j + i) ≠ 10 := fun i hi => byteN_not s _ i (by omega) (by rw [← hrl]; exact hs2 i hi)
      have hyes : byteN s (start s j + o) = 10 := byteN_drop s _ o 10 (by rw [← hrl]; exact hs1)
      have hrun := pl_run s (start s j) o _ h4 hno
      refine ⟨⟨by omega, by rw [hpz]; exact hrun, fun _ => ⟨by rw [hpz]; exact hst, by rw [hr, ho]; omega⟩, fun h => absurd h (by omega)⟩, fun _ => ⟨by omega, ?_, ?_, ?_⟩⟩
      · have := Lib.countB_hit r LF o (by decide) hoB
        rw [hext] at this
        omega
      · have := congrArg List.tail hsp
        rw [List.tail_drop] at this
        exact this
      · rw [hst, plN, if_pos hyes, hrun o (Nat.le_refl _)]
        simp
    · have hjk : j = Lib.countB s LF := by omega
      have hz : Lib.countB r LF = 0 := by omega
      have hm : Lib.indexB r LF = -1 := by
        by_cases h : Lib.indexB r LF = -1
        · exact h
        · exfalso
          have hge := Lib.indexByte_ge r.data.toList 10
          rw [indexB_lf] at h
          obtain ⟨o, ho⟩ : ∃ o : Nat, Lib.indexByte r.data.toList 10 = o := ⟨(Lib.indexByte r.data.toList 10).toNat, by omega⟩
          have := Lib.countB_hit r LF o (by decide) (by rw [indexB_lf]; exact ho)
          omega
      have hsp : (lines s).drop j = [r] := by rw [h3, Lib.splitB_miss LF 0 _ r hm]
      have hpc : (lines s).getD j ⟨#[]⟩ = r := by
        have := congrArg List.head? hsp
        rw [List.head?_drop] at this
        rw [List.getD_eq_getElem?_getD, this]
        rfl
      rw [indexB_lf] at hm
      have hno : ∀ i, i < r.size → byteN s (start s j + i) ≠ 10 := fun i hi => byteN_not s _ i (by omega) (by rw [← hrl]; exact Lib.indexByte_none hm i)
      have hrun := pl_run s (start s j) r.size _ h4 hno
      exact ⟨⟨by rw [hpc]; omega, by rw [hpc]; exact hrun, fun h => absurd h (by omega), fun _ => by rw [hpc]; omega⟩, fun h => absurd h hlt⟩
  have all : ∀ j, j ≤ Lib.countB s LF → start s j ≤ s.size ∧ Lib.countB (s.extract (start s j) s.size) LF + j = Lib.countB s LF ∧ (lines s).drop j = Lib.splitB LF 0 (Lib.countB s LF - j) (s.extract (start s j) s.size) ∧ plN s (start s j) = ((j : Int) + 1, 1) := by
    intro j
    induction j with
    | zero =>
      intro _
      have he : s.extract 0 s.size = s := by
        apply ByteArray.ext
        apply Array.toList_inj.1
        rw [ext_drop]; rfl
      refine ⟨Nat.zero_le _, ?_, ?_, rfl⟩
      · show Lib.countB (s.extract 0 s.size) LF + 0 = _
        rw [he]; rfl
      · show lines s = Lib.splitB LF 0 (Lib.countB s LF - 0) (s.extract 0 s.size)
        rw [he]; rfl
    | succ j ih =>
      intro hj
      exact (main j (by omega) (ih (by omega))).2 (by omega)
  intro j hj
  exact ⟨(all j hj).1, (all j hj).2.1, (all j hj).2.2.1, (all j hj).2.2.2, (main j hj (all j hj)).1⟩

/-- Every byte lies in a line. -/
theorem cover (s : ByteArray) : ∀ d j, j + d = Lib.countB s LF → ∀ i, start s j ≤ i → i ≤ s.size → ∃ j' c, j' ≤ Lib.countB s LF ∧ c ≤ ((lines s).getD j' ⟨#[]⟩).size ∧ i = start s j' + c
  | 0, j, hj, i, h1, h2 => by
    have L := (lines_at s j (by omega)).2.2.2.2
    have := L.last (by omega)
    exact ⟨j, i - start s j, by omega, by omega, by omega⟩
  | d + 1, j, hj, i, h1, h2 => by
    have L := (lines_at s j (by omega)).2.2.2.2
    by_cases h : i ≤ start s j + ((lines s).getD j ⟨#[]⟩).size
    · exact ⟨j, i - start s j, by omega, by omega, by omega⟩
    · have := (L.next (by omega)).1
      exact cover s d (j + 1) (by omega) i (by omega) h2

/-- A place in the text is a line and a column. -/
theorem place_line (s : ByteArray) (i : Nat) (hi : i ≤ s.size) (line col : Int) (h : plN s i = (line, col)) : ∃ j c, j < (lines s).length ∧ c ≤ ((lines s).getD j ⟨#[]⟩).size ∧ line = (j : Int) + 1 ∧ col = (c : Int) + 1 := by
  obtain ⟨j, c, hj, hc, rfl⟩ := cover s (Lib.countB s LF) 0 (by omega) i (Nat.zero_le _) hi
  have L := (lines_at s j hj).2.2.2.2
  rw [L.pl c hc] at h
  exact ⟨j, c, by rw [lines_length]; omega, hc, (congrArg Prod.fst h).symm, (congrArg Prod.snd h).symm⟩

theorem pl_lt (s : ByteArray) (i : Nat) : ∀ d, (plN s i).1 < (plN s (i + d + 1)).1 ∨ ((plN s i).1 = (plN s (i + d + 1)).1 ∧ (plN s i).2 < (plN s (i + d + 1)).2) := by
  have one : ∀ i, (plN s i).1 < (plN s (i + 1)).1 ∨ ((plN s i).1 = (plN s (i + 1)).1 ∧ (plN s i).2 < (plN s (i + 1)).2) := by
    intro i
    rw [plN]
    split
    · left; simp; omega
    · right; exact ⟨rfl, by simp; omega⟩
  intro d
  induction d with
  | zero => exact one i
  | succ d ih =>
    have h := one (i + d + 1)
    rw [show i + (d + 1) + 1 = i + d + 1 + 1 by omega]
    rcases ih with h1 | ⟨h1, h2⟩ <;> rcases h with h3 | ⟨h3, h4⟩
    · left; omega
    · left; omega
    · left; omega
    · right; exact ⟨by omega, by omega⟩
theorem pl_inj (s : ByteArray) (i j : Nat) (h : plN s i = plN s j) : i = j := by
  rcases Nat.lt_trichotomy i j with hl | hl | hl
  · have := pl_lt s i (j - i - 1)
    rw [show i + (j - i - 1) + 1 = j by omega, h] at this
    omega
  · exact hl
  · have := pl_lt s j (i - j - 1)
    rw [show j + (i - j - 1) + 1 = i by omega, h] at this
    omega

/-- What Offset returns. -/
def Offs (s : ByteArray) (line col : Int) (e : Ending) : Prop := (∃ i : Nat, i ≤ s.size ∧ plN s i = (line, col) ∧ e = .returned (.tuple #[.int .i64 i, .int .i64 0])) ∨ (e = .returned (.tuple #[.int .i64 0, .int .i64 4]) ∧ ∀ i : Nat, i ≤ s.size → plN s i ≠ (line, col))

theorem Offset_all (s : ByteArray) (line col : Int) (w : World) (hm : MaxIs w) (hc : chk s = 0) (hz : s.size ≤ 8192) :
    Calls Tryd.prog 6 #[.string s, .int .i64 line, .int .i64 col] w fun e w' => Offs s line col e ∧ Below w.heap.size w w' := by
  have hcnt : Lib.countB s LF ≤ s.size := Lib.countB_le LF (by decide) s.size s (Nat.le_refl _)
  have hn5 : (lines s).length ≤ 8193 := by rw [lines_length]; omega
  have hl : ∀ p ∈ lines s, p.size ≤ 8192 := by
    intro p hp
    obtain ⟨j, hj, rfl⟩ := List.getElem_of_mem hp
    have L := (lines_at s j (by rw [lines_length] at hj; omega)).2.2.2.2
    have := L.le
    rw [List.getD_eq_getElem?_getD, List.getElem?_eq_getElem hj] at this
    simp only [Option.getD_some] at this
    omega
  by_cases hj : line < 1 ∨ ((lines s).length : Int) < line
  · refine (Offset_line s line col w hm hj hc hz hn5).mono ?_
    rintro e w' ⟨rfl, hb⟩
    refine ⟨.inr ⟨rfl, fun i hi h => ?_⟩, hb⟩
    obtain ⟨j, c, h1, h2, rfl, rfl⟩ := place_line s i hi line col h
    omega
  · obtain ⟨j, rfl⟩ : ∃ j : Nat, line = (j : Int) + 1 := ⟨(line - 1).toNat, by omega⟩
    have hjl : j < (lines s).length := by omega
    by_cases hcol : col < 1 ∨ (((lines s).getD j ⟨#[]⟩).size : Int) + 1 < col
    · refine (Offset_col s j col w hm hjl hc hz hl hn5 hcol).mono ?_
      rintro e w' ⟨rfl, hb⟩
      refine ⟨.inr ⟨rfl, fun i hi h => ?_⟩, hb⟩
      obtain ⟨j', c, h1, h2, h3, rfl⟩ := place_line s i hi _ col h
      obtain rfl : j = j' := by omega
      omega
    · obtain ⟨c, rfl⟩ : ∃ c : Nat, col = (c : Int) + 1 := ⟨(col - 1).toNat, by omega⟩
      have hk : j ≤ Lib.countB s LF := by rw [lines_length] at hjl; omega
      have L := (lines_at s j hk).2.2.2.2
      have hcl : c ≤ ((lines s).getD j ⟨#[]⟩).size := by omega
      refine (Offset_ok s j c w hm hjl hc hz hl hn5 hcl (fun i hi => (lines_at s i (by omega)).1) (fun i hi => ((lines_at s i (by omega)).2.2.2.2.next (by omega)).2)).mono ?_
      rintro e w' ⟨rfl, hb⟩
      exact ⟨.inl ⟨start s j + c, by have := L.le; omega, L.pl c hcl, by push_cast; rfl⟩, hb⟩

theorem place_two : plN ⟨#[97, 98, 10, 99, 100]⟩ 4 = (2, 2) := by decide
theorem chk_two : chk ⟨#[97, 98, 10, 99, 100]⟩ = 0 := by decide

end Go.Proofs.YtmekgcpdkbegnaaDoor.Sp
