/- What the bulk of the arguments says of their lengths. -/
import Derived.Test.YtdobkkoonamocaaCg
import Derived.Test.YtdobkkoonamocaaRows
import Derived.ChangeArms
import Derived.Deep.Slices
import Derived.ProofKit
import Derived.OpenShut
namespace Go.Proofs.Ytdobkkoonamocaa.Mo
open Go.RowKit Go.Proofs.Ytdobkkoonamocaa.PModulesOrdered Go.Proofs.YtdobkkoonamocaaW.PrintWords Go.Proofs.YtdobkkoonamocaaW.PrintLast Go.Proofs.YtdobkkoonamocaaW.PrintMore
set_option linter.unusedVariables false
theorem ce9 : Try.prog.cellsOf 9 = 1 := by kernel_rfl
theorem ce22 : Try.prog.cellsOf 22 = 1 := by kernel_rfl

theorem add_two (a : Addr) (m n : Nat) : (a.add m).add n = a.add (m + n) := by
  unfold Addr.add
  by_cases hm : m = 0
  · subst hm; simp
  · by_cases hn : n = 0
    · subst hn; simp
    · rw [if_neg hm, if_neg hn, if_neg (by omega), Nat.add_assoc]

/-- A slice argument whose elements open. -/
theorem open_slice_of {P : Program} {H : Type} {enc : TypeId × Value → H} {W : World} {α : Type} (k : Kd α) (z : α) {t e : TypeId} (ht : P.underlying t = some (.slice e)) (hce : P.cellsOf e = k.sz)
    (hel : ∀ (n : Nat) (cs : List Value) (x : DataW H × List MemPlace), DataW.trod enc P W 0 (fun _ => true) true n e cs = some x → ∃ y : α, k.K W y cs)
    {m : Nat} {d : Value} {x : DataW H × List MemPlace} (h : DataW.trod enc P W 0 (fun _ => true) true m t [d] = some x) : ∃ (l : List α) (A : Option Addr) (c : Nat), d = .slice A l.length c ∧ l.length ≤ c ∧ k.C W A l.length l := by
  rcases DataW.trod_slice ht h with ⟨q3, _⟩ | ⟨ad, len, cap, elems, rest, n, hk, q3, _, _, hlc, hcm, hel', hi, _, _⟩
  · obtain rfl : d = .slice none 0 0 := by simpa using q3
    exact ⟨[], none, 0, rfl, Nat.le_refl _, Kd.C_nil k W⟩
  · obtain rfl : d = .slice (some ad) len cap := by simpa using q3
    rw [hce] at hi
    have hy : ∀ i, ∃ y : α, i < len → ∃ c, k.K W y c ∧ ∀ j u, c[j]? = some u → W.cell? (ad.add (i * k.sz + j)) = some u := by
      intro i
      by_cases hlt : i < len
      · have h1 := hi i hlt
        rw [List.getElem?_eq_getElem (by omega)] at h1
        obtain ⟨c, hc, ht'⟩ := Option.bind_eq_some_iff.1 h1
        obtain ⟨y, hK⟩ := hel _ c _ ht'
        refine ⟨y, fun _ => ⟨c, hK, fun j u hj => ?_⟩⟩
        obtain ⟨_, hcl, hcc⟩ := World.cells?_some hc
        have hjl := (List.getElem?_eq_some_iff.1 hj).1
        have h2 := hcc j (by omega)
        rw [hj] at h2
        rw [← h2, add_two]
      · exact ⟨z, fun h => absurd h hlt⟩
    obtain ⟨f, hf'⟩ := Classical.axiomOfChoice hy
    have hlen : ((List.range len).map f).length = len := by simp
    refine ⟨(List.range len).map f, some ad, cap, by rw [hlen], by rw [hlen]; exact hlc, ?_⟩
    rw [hlen]
    refine ⟨by simp, by unfold maxLen at hcm; omega, fun _ => ⟨ad, rfl, fun j p hj => ?_⟩⟩
    have hjl : j < len := by
      have := (List.getElem?_eq_some_iff.1 hj).1
      simpa using this
    have hp : p = f j := by simpa [hjl] using hj.symm
    subst hp
    obtain ⟨c, hK, hcc⟩ := hf' j hjl
    exact ⟨c, k.K_len hK, hK, hcc⟩

theorem open9 {H : Type} {enc : TypeId × Value → H} {W : World} (n : Nat) (cs : List Value) (x : DataW H × List MemPlace) (h : DataW.trod enc Try.prog W 0 (fun _ => true) true n 9 cs = some x) : ∃ y : ByteArray, Kd.string.K W y cs := by
  obtain ⟨s, q, _, _⟩ := DataW.trod_string Try.underlying9 h
  exact ⟨s, q⟩

theorem one_cell {H : Type} {enc : TypeId × Value → H} {W : World} {n : Nat} {cs : List Value} {x : DataW H × List MemPlace} (h : DataW.trod enc Try.prog W 0 (fun _ => true) true n 22 cs = some x) : ∃ d, cs = [d] := by
  rcases DataW.trod_slice Try.underlying22 h with ⟨q3, _⟩ | ⟨ad, len, cap, elems, rest, m, hk, q3, _⟩
  · exact ⟨_, q3⟩
  · exact ⟨_, q3⟩
theorem open22 {H : Type} {enc : TypeId × Value → H} {W : World} (n : Nat) (cs : List Value) (x : DataW H × List MemPlace) (h : DataW.trod enc Try.prog W 0 (fun _ => true) true n 22 cs = some x) : ∃ y : List ByteArray, (Kd.slice 9 Kd.string).K W y cs := by
  obtain ⟨d, rfl⟩ := one_cell h
  obtain ⟨l, A, c, e, hc, hC⟩ := open_slice_of Kd.string ByteArray.empty Try.underlying22 ce9 (fun n cs x h => open9 n cs x h) h
  exact ⟨l, A, c, by rw [e], hc, hC⟩
theorem bulk_pos {H : Type} (d : DataW H) : 1 ≤ Rows.uptoBulk d := by
  cases d with
  | lit x => cases x <;> simp [Rows.uptoBulk]
  | _ => simp [Rows.uptoBulk]
theorem bulk_len {H : Type} : ∀ (l : List (DataW H)), l.length ≤ Rows.uptoBulkAll l
  | [] => Nat.zero_le _
  | d :: r => by
    have h1 := bulk_pos d
    have h2 := bulk_len r
    simp only [Rows.uptoBulkAll, List.length_cons]
    omega
theorem bulk_mem {H : Type} : ∀ {l : List (DataW H)} {d : DataW H}, d ∈ l → Rows.uptoBulk d ≤ Rows.uptoBulkAll l
  | x :: r, d, h => by
    simp only [Rows.uptoBulkAll]
    rcases List.mem_cons.1 h with rfl | h2
    · omega
    · have := bulk_mem h2
      omega
theorem slice_small {H : Type} {enc : TypeId × Value → H} {W : World} {m t e : Nat} (ht : Try.prog.underlying t = some (.slice e)) {A : Option Addr} {n c : Nat} {x : DataW H × List MemPlace} (h : DataW.trod enc Try.prog W 0 (fun _ => true) true m t [.slice A n c] = some x) : n ≤ Rows.uptoBulk x.1 := by
  rcases DataW.trod_slice ht h with ⟨q3, _⟩ | ⟨ad, len, cap, elems, rest, k, hk, q3, hd, hlen, hlc, hcm, hel, hi, _, _⟩
  · have q4 : Value.slice A n c = .slice none 0 0 := (List.cons.inj q3).1
    injection q4 with _ q5 _
    omega
  · have q4 : Value.slice A n c = .slice (some ad) len cap := (List.cons.inj q3).1
    injection q4 with _ q5 _
    rw [hd]
    have h1 := bulk_len (elems.map (·.1))
    rw [List.length_map] at h1
    simp only [Rows.uptoBulk]
    omega
theorem rows_small {H : Type} {enc : TypeId × Value → H} {W : World} {m : Nat} {A : Option Addr} {I : List (List ByteArray)} {c : Nat} {x : DataW H × List MemPlace} (h : DataW.trod enc Try.prog W 0 (fun _ => true) true m 23 [.slice A I.length c] = some x) (hb : Rows.uptoBulk x.1 ≤ 1048576)
    (hC : Kd.C (Kd.slice 9 Kd.string) W A I.length I) : ∀ l ∈ I, l.length ≤ 1048576 := by
  intro l hl
  obtain ⟨i, hi, rfl⟩ := List.mem_iff_getElem.1 hl
  rcases DataW.trod_slice Try.underlying23 h with ⟨q3, _⟩ | ⟨ad, len, cap, elems, rest, k, hk, q3, hd, hlen, hlc, hcm, hel, hi2, _, _⟩
  · have q4 : Value.slice A I.length c = .slice none 0 0 := (List.cons.inj q3).1
    injection q4 with _ q5 _
    omega
  · have q4 : Value.slice A I.length c = .slice (some ad) len cap := (List.cons.inj q3).1
    injection q4 with q6 q5 _
    have h1 := hi2 i (by omega)
    rw [ce22, List.getElem?_eq_getElem (by omega)] at h1
    obtain ⟨cs, hc, ht'⟩ := Option.bind_eq_some_iff.1 h1
    obtain ⟨_, hcl, hcc⟩ := World.cells?_some hc
    obtain ⟨ad2, A0, c0, e2, h3, _, _⟩ := at_L1 hC (i : Int) (by omega) (by omega)
    rw [q6] at e2
    injection e2 with e2
    subst e2
    rw [Int.toNat_natCast, rd_L1_get hi] at h3
    have h4 := hcc 0 (by omega)
    rw [add_two, Nat.mul_one, Nat.add_zero, h3] at h4
    obtain ⟨v, rfl⟩ : ∃ v, cs = [v] := by
      match cs, hcl with
      | [v], _ => exact ⟨v, rfl⟩
    rw [List.getElem?_cons_zero] at h4
    injection h4 with h4
    rw [← h4] at ht'
    have h5 := slice_small Try.underlying22 ht'
    have h6 : Rows.uptoBulk (elems[i]'(by omega)).1 ≤ Rows.uptoBulkAll (elems.map (·.1)) := bulk_mem (List.mem_map.2 ⟨_, List.getElem_mem _, rfl⟩)
    rw [hd] at hb
    simp only [Rows.uptoBulk] at hb
    omega
end Go.Proofs.Ytdobkkoonamocaa.Mo
