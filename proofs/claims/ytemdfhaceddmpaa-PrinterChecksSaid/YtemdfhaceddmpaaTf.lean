import Derived.Test.YtemdfhaceddmpaaTe
namespace Go.Proofs.Ytemdfhaceddmpaa.Tr
open Go.Shelf Go.RowKit Go.Proofs.Ytemdfhaceddmpaa.PPrinterTells Go.Proofs.YtemdfhaceddmpaaW.PrintWords Go.Proofs.YtemdfhaceddmpaaW.PrintLast Go.Proofs.YtemdfhaceddmpaaW.PrintMore
set_option linter.unusedVariables false
set_option linter.unusedSimpArgs false

theorem enc_len : ∀ (its : List (UInt8 × UInt8)), (enc its).length ≤ 2 * its.length
  | [] => by simp [enc]
  | (c, m) :: r => by
    have := enc_len r
    unfold enc
    split <;> simp <;> omega
theorem cat3 {s s2 : ByteArray} {ch : UInt8} {t e : List UInt8} (h : s.data.toList = ch :: t) (h2 : s2.data.toList = e) : (s.extract 0 1 ++ ⟨#[42]⟩ ++ s2).data.toList = ch :: 42 :: e := by
  have h1 : (s.extract 0 1).data.toList = [ch] := by
    rw [← Go.Lib.toList_data, Go.Lib.extract_toList, h]; rfl
  rw [ByteArray.data_append, ByteArray.data_append, Array.toList_append, Array.toList_append, h1, h2]
  rfl

theorem enc_star (ch : UInt8) (r : List (UInt8 × UInt8)) : enc ((ch, 42) :: r) = ch :: 42 :: enc r := by
  rw [enc, if_neg (by decide)]
/-- fitsText answers as 'fit' does. -/
theorem fits_all : ∀ n, n ≤ 100000000000000 → FIH n
  | 0, _ => fun its l s A c w hn _ _ _ _ _ => absurd hn (Nat.not_lt_zero _)
  | n + 1, hbig => by
    have ih := fits_all n (by omega)
    intro its l s A c w hn hok hs hC hl hl2
    rcases its with _ | ⟨⟨ch, m⟩, r⟩
    · have : s = ⟨#[]⟩ := by
        apply ByteArray.ext
        apply Array.toList_inj.1
        rw [hs]; rfl
      subst this
      exact fits_nil l A c w
    · obtain ⟨t, ht⟩ : ∃ t, s.data.toList = ch :: t := by
        have h1 := hs
        unfold enc at h1
        split at h1
        · exact ⟨_, h1⟩
        · exact ⟨_, h1⟩
      obtain ⟨hE, hp, hp1⟩ := ne_of_cons ht
      have hokc := hok (ch, m) (by simp)
      have hokr : ∀ y ∈ r, okI y := fun y hy => hok y (by simp [hy])
      have hsz : s.size ≤ 2 * (r.length + 1) := by rw [size_of hs]; exact enc_len ((ch, m) :: r)
      have hLl : FTl n l (.slice A l.length c) w := FTl.mk ih hC hl hl2
      rcases l with _ | ⟨x, l'⟩
      · rcases nxt hs rfl hokr with ⟨hm, he, hr⟩ | ⟨hm, z, he, hp2, hz, hi, hr⟩ | ⟨hm, he, hp2, hz, hr⟩
        · subst hm; exact fits_e_last n s _ ch r A c w hE hp hp1 rfl he
        · subst hm; exact fits_e_more n s _ ch r A c w hE hp hp1 rfl z he hp2 hz hi
        · have hp3 : (1 : Int) ≤ ((s.extract 1 s.size).size : Int) := by omega
          have hn' : r.length < n := by simp at hn; omega
          rcases hokc.2 with h | h | h | h
          · exact absurd h hm
          · obtain rfl : m = 42 := h
            exact fits_e_star n s _ _ ch r A c w hE hp hp1 rfl rfl he hp2 hp3 hz hr hokr hn' hLl
          · obtain rfl : m = 43 := h
            exact fits_e_plus n s _ _ ch r A c w hE hp hp1 rfl rfl he hp2 hp3 hz hr hokr hn' hLl
          · obtain rfl : m = 63 := h
            exact fits_e_quest n s _ _ ch r A c w hE hp hp1 rfl rfl he hp2 hp3 hz hr hokr hn' hLl
      · have hn' : r.length + l'.length + 1 < n := by simp at hn; omega
        obtain ⟨ad, rfl, x0⟩ := Kd.at_int hC 0 (by omega) (by simp)
        have x1 : w.cell? ad = some (.int .i64 x) := by simpa [Addr.add, rd] using x0
        have hi0 := idx0 ht hp
        have hc1 : 1 ≤ c := Nat.le_trans (by simp) hl
        have hlc : l'.length + 1 ≤ c := by simpa using hl
        have hl3 : l'.length ≤ 17592186044416 := by simp at hl2; omega
        have hT : (c = 1 ∧ FTl n l' (.slice (some ad) l'.length 0) w) ∨ (¬ c = 1 ∧ FTl n l' (.slice (some (ad.add 1)) l'.length (c - 1)) w) := by
          have h := tail_C hC hl
          by_cases h1 : c = 1
          · rw [if_pos h1] at h
            exact Or.inl ⟨h1, FTl.mk ih h (by omega) hl3⟩
          · rw [if_neg h1] at h
            exact Or.inr ⟨h1, FTl.mk ih h (by omega) hl3⟩
        rcases nxt hs rfl hokr with ⟨hm, he, hr⟩ | ⟨hm, z, he, hp2, hz, hi, hr⟩ | ⟨hm, he, hp2, hz, hr⟩
        · subst hm; exact fits_last n s _ ch r x l' ad c w hE hp hp1 rfl hi0 he hr hokc hokr x1 hc1 hn' hT
        · subst hm; exact fits_more n s _ ch r x l' ad c w hE hp hp1 rfl hi0 z he hp2 hz hi hr hokc hokr x1 hc1 hn' hT
        · have hp3 : (1 : Int) ≤ ((s.extract 1 s.size).size : Int) := by omega
          rcases hokc.2 with h | h | h | h
          · exact absurd h hm
          · obtain rfl : m = 42 := h
            exact fits_star n s _ _ ch r x l' ad c w hs hE hp hp1 rfl hi0 rfl he hp2 hp3 hz hr hokc hokr x1 hc1 hn' hLl hT
          · obtain rfl : m = 43 := h
            have hcat := cat3 ht hr
            have h2 : (s.extract 0 1 ++ ⟨#[42]⟩ : ByteArray).size + ((s.extract 1 s.size).extract 1 (s.extract 1 s.size).size).size ≤ 9223372036854775807 := by
              have h3 := size_of hcat
              have h4 := enc_len r
              rw [ByteArray.size_append] at h3
              simp only [List.length_cons] at h3
              simp only [List.length_cons] at hn
              omega
            exact fits_plus n s _ _ ch r x l' ad c w hs hE hp hp1 rfl hi0 rfl he hp2 hp3 hz hr hokc hokr x1 hc1 hn' _ rfl h2 (by rw [hcat]; exact (enc_star ch r).symm) hLl hT
          · obtain rfl : m = 63 := h
            exact fits_quest n s _ _ ch r x l' ad c w hs hE hp hp1 rfl hi0 rfl he hp2 hp3 hz hr hokc hokr x1 hc1 hn' hLl hT
end Go.Proofs.Ytemdfhaceddmpaa.Tr
