import Derived.Test.YtdobkkoonamocaaMe
import Derived.Test.YtdobkkoonamocaaPModulesOrderedx1
namespace Go.Proofs.Ytdobkkoonamocaa.Mo
open Go.RowKit Go.Proofs.Ytdobkkoonamocaa.PModulesOrdered Go.Proofs.YtdobkkoonamocaaW.PrintWords Go.Proofs.YtdobkkoonamocaaW.PrintLast Go.Proofs.YtdobkkoonamocaaW.PrintMore
set_option linter.unusedVariables false
abbrev N2 : List ByteArray := [⟨#[65]⟩, ⟨#[66]⟩]
abbrev I2 : List (List ByteArray) := [[⟨#[66]⟩], []]
theorem err2 : mErr N2 I2 = 0 := by kernel_rfl
theorem ord2 : ord (pOk (nm N2) (im I2)) (ltN N2) N2.length N2.length [] = some [1, 0] := by kernel_rfl
theorem equalI_from (xs : List Int) (hx : xs.length < 1000) : ∀ (d i k : Nat), i + d = xs.length → d < k → slices_Equal_int_int.l0 k xs xs (xs.length : Int) (i : Int) = some true := by
  intro d
  induction d with
  | zero =>
    intro i k hi hk
    obtain ⟨k, rfl⟩ : ∃ m, k = m + 1 := ⟨k - 1, by omega⟩
    simp only [slices_Equal_int_int.l0]
    rw [if_neg (by omega)]
  | succ d ih =>
    intro i k hi hk
    obtain ⟨k, rfl⟩ : ∃ m, k = m + 1 := ⟨k - 1, by omega⟩
    simp only [slices_Equal_int_int.l0]
    rw [if_pos (by omega), if_pos (by omega), if_pos (by omega), if_pos (by omega), w64i i (by omega), ih (i + 1) k (by omega) (by omega)]
    try simp
theorem equalI_calls (xs : List Int) (hx : xs.length < 1000) (A B : Option Addr) (c d : Nat) (w : World) (hA : Kd.C (Kd.int .i64) w A xs.length xs) (hc : xs.length ≤ c) (hB : Kd.C (Kd.int .i64) w B xs.length xs) (hd : xs.length ≤ d) :
    Calls Try.prog 7 #[.slice A xs.length c, .slice B xs.length d] w fun e w' => e = .returned (.bool true) ∧ Drawn0 w w' :=
  slices_Equal_int_int.calls (xs.length + 1) A c xs B d xs true w hA hc hB hd (by unfold slices_Equal_int_int.f; rw [if_pos rfl]; exact equalI_from xs hx xs.length 0 _ (by omega) (by omega))
theorem own_CI {W : World} {B : Nat} {A : Option Addr} {c : Nat} {l : List Int} (h : W.ownsRow B 3 1 (.slice A l.length c) l.length (nums .i64 l)) : Kd.C (Kd.int .i64) W A l.length l :=
  Kd.C_of_reads (d := 0) (h1 := fun _ => rfl) (own_reads_of' h)
theorem lit_S {W : World} {b t : Nat} {l : List ByteArray} {cs : Array Value} (h : W.heap[b]? = some (.cells cs t (0, 0))) (hcs : cs = (l.map Value.string).toArray) (hl : l.length < 1000) : Kd.C Kd.string W (some ⟨b, 0, none⟩) l.length l := by
  subst hcs
  refine ⟨by simp, by omega, fun _ => ⟨_, rfl, fun j p hj => ⟨[.string p], rfl, rfl, fun i u hu => ?_⟩⟩⟩
  obtain rfl : i = 0 := by have := (List.getElem?_eq_some_iff.1 hu).1; simp at this; omega
  rw [add_plain, blk_cell h]
  have : j * Kd.string.sz + 0 = j := Nat.mul_one j
  rw [this]
  rw [List.getElem?_cons_zero] at hu
  simp [hj, ← hu]
theorem lit_I {W : World} {b t : Nat} {l : List Int} {cs : Array Value} (h : W.heap[b]? = some (.cells cs t (0, 0))) (hcs : cs = (l.map (Value.int .i64)).toArray) (hl : l.length < 1000) : Kd.C (Kd.int .i64) W (some ⟨b, 0, none⟩) l.length l := by
  subst hcs
  refine ⟨by simp, by omega, fun _ => ⟨_, rfl, fun j p hj => ⟨[.int .i64 p], rfl, rfl, fun i u hu => ?_⟩⟩⟩
  obtain rfl : i = 0 := by have := (List.getElem?_eq_some_iff.1 hu).1; simp at this; omega
  rw [add_plain, blk_cell h]
  have : j * (Kd.int IntKind.i64).sz + 0 = j := Nat.mul_one j
  rw [this]
  rw [List.getElem?_cons_zero] at hu
  simp [hj, ← hu]
/-- The arguments of the law's first call. -/
theorem first_args (w : World) :
    Kd.C Kd.string (((w.alloc (.cells #[.string ⟨#[65]⟩, .string ⟨#[66]⟩] 9)).alloc (.cells #[.string ⟨#[66]⟩] 9)).alloc (.cells #[.slice (some ⟨w.heap.size + 1, 0, none⟩) 1 1, .slice none 0 0] 22)) (some ⟨w.heap.size, 0, none⟩) 2 N2 ∧
    Kd.C (Kd.slice 9 Kd.string) (((w.alloc (.cells #[.string ⟨#[65]⟩, .string ⟨#[66]⟩] 9)).alloc (.cells #[.string ⟨#[66]⟩] 9)).alloc (.cells #[.slice (some ⟨w.heap.size + 1, 0, none⟩) 1 1, .slice none 0 0] 22)) (some ⟨w.heap.size + 1 + 1, 0, none⟩) 2 I2 ∧
    Below w.heap.size w (((w.alloc (.cells #[.string ⟨#[65]⟩, .string ⟨#[66]⟩] 9)).alloc (.cells #[.string ⟨#[66]⟩] 9)).alloc (.cells #[.slice (some ⟨w.heap.size + 1, 0, none⟩) 1 1, .slice none 0 0] 22)) := by
  have h1 := blk_alloc (blk_alloc (blk_new w (.cells #[.string ⟨#[65]⟩, .string ⟨#[66]⟩] 9)) (.cells #[.string ⟨#[66]⟩] 9)) (.cells #[.slice (some ⟨w.heap.size + 1, 0, none⟩) 1 1, .slice none 0 0] 22)
  have h2 := blk_alloc (blk_new (w.alloc (.cells #[.string ⟨#[65]⟩, .string ⟨#[66]⟩] 9)) (.cells #[.string ⟨#[66]⟩] 9)) (.cells #[.slice (some ⟨w.heap.size + 1, 0, none⟩) 1 1, .slice none 0 0] 22)
  have h3 := blk_new ((w.alloc (.cells #[.string ⟨#[65]⟩, .string ⟨#[66]⟩] 9)).alloc (.cells #[.string ⟨#[66]⟩] 9)) (.cells #[.slice (some ⟨w.heap.size + 1, 0, none⟩) 1 1, .slice none 0 0] 22)
  have s1 : (w.alloc (.cells #[.string ⟨#[65]⟩, .string ⟨#[66]⟩] 9)).heap.size = w.heap.size + 1 := by simp
  have s2 : ((w.alloc (.cells #[.string ⟨#[65]⟩, .string ⟨#[66]⟩] 9)).alloc (.cells #[.string ⟨#[66]⟩] 9)).heap.size = w.heap.size + 1 + 1 := by simp
  rw [s1] at h2
  rw [s2] at h3
  refine ⟨lit_S h1 rfl (by decide), ?_, below_alloc (below_alloc (below_alloc (Below.refl _ _) _) _) _⟩
  have k2 := lit_S (l := [⟨#[66]⟩]) h2 rfl (by decide)
  generalize ((w.alloc _).alloc _).alloc _ = W at *
  refine ⟨by decide, by decide, fun _ => ⟨_, rfl, fun j p hj => ?_⟩⟩
  match j, hj with
  | 0, hj =>
    obtain rfl : p = [⟨#[66]⟩] := by simpa using hj.symm
    refine ⟨[.slice (some ⟨w.heap.size + 1, 0, none⟩) 1 1], rfl, ⟨_, _, rfl, Nat.le_refl _, k2⟩, fun i u hu => ?_⟩
    obtain rfl : i = 0 := by have := (List.getElem?_eq_some_iff.1 hu).1; simp at this; omega
    rw [List.getElem?_cons_zero] at hu
    rw [add_plain, blk_cell h3]
    simpa using hu
  | 1, hj =>
    obtain rfl : p = [] := by simpa using hj.symm
    refine ⟨[.slice none 0 0], rfl, ⟨_, _, rfl, Nat.le_refl _, Kd.C_nil _ _⟩, fun i u hu => ?_⟩
    obtain rfl : i = 0 := by have := (List.getElem?_eq_some_iff.1 hu).1; simp at this; omega
    rw [List.getElem?_cons_zero] at hu
    rw [add_plain, blk_cell h3]
    have : 1 * (Kd.slice 9 Kd.string).sz + 0 = 1 := rfl
    rw [this]
    simpa using hu
theorem hasB_iff {l : List ByteArray} {s : ByteArray} : hasB l s = true ↔ ∃ x ∈ l, x.toList = s.toList := by
  unfold hasB; rw [List.any_eq_true]; simp
theorem dup_inj : ∀ {N : List ByteArray}, dupB N = false → ∀ i j, (hij : i < j) → (h : j < N.length) → (N[i]'(Nat.lt_trans hij h)).toList ≠ N[j].toList
  | [], _, _, _, _, h => absurd h (Nat.not_lt_zero _)
  | x :: r, hd, i, j, hij, h => by
    rw [dupB, Bool.or_eq_false_iff] at hd
    obtain ⟨j, rfl⟩ : ∃ m, j = m + 1 := ⟨j - 1, by omega⟩
    match i with
    | 0 =>
      intro he
      simp only [List.getElem_cons_zero, List.getElem_cons_succ] at he
      have : hasB r x = true := hasB_iff.2 ⟨_, List.getElem_mem _, he.symm⟩
      rw [hd.1] at this
      cases this
    | i + 1 =>
      simp only [List.getElem_cons_succ]
      exact dup_inj hd.2 i j (by omega) (by simpa using h)
theorem inj_of {N : List ByteArray} (h : dupB N = false) : Inj N.length (nm N) := by
  intro i j hi hj he
  unfold nm at he
  rw [sx_get hi, sx_get hj] at he
  rcases Nat.lt_trichotomy i j with h1 | h1 | h1
  · exact absurd he (dup_inj h i j h1 hj)
  · exact h1
  · exact absurd he.symm (dup_inj h j i h1 hi)
/-- Without an error. -/
theorem err_zero {N : List ByteArray} {I : List (List ByteArray)} (h : mErr N I = 0) : N.length ≤ 16 ∧ I.length = N.length ∧ dupB N = false ∧ allB N I = true := by
  unfold mErr at h
  split at h
  · cases h
  · split at h
    · cases h
    · split at h
      · cases h
      · split at h
        · exact ⟨by omega, by omega, by simp_all, by assumption⟩
        · cases h
theorem orders_same {N : List ByteArray} {I : List (List ByteArray)} (h : mErr N I = 0) {M : Nat → Nat → Bool} (hM : MatOk N.length (nm N) (im I) M) :
    ord (pOk (nm N) (im I)) (ltN N) N.length N.length [] = ord (rOk N.length M) (ltN N) N.length N.length [] := by
  obtain ⟨h1, h2, h3, h4⟩ := err_zero h
  refine ord_same (inj_of h3) hM (fun i hi m hm => ?_) _ _ _ closed_nil
  unfold im at hm
  rw [rd_L1_get (by omega)] at hm
  obtain ⟨s, hs, rfl⟩ := List.mem_map.1 hm
  unfold allB at h4
  rw [List.all_eq_true] at h4
  have h5 := List.all_eq_true.1 (h4 _ (List.getElem_mem _)) s hs
  obtain ⟨x, hx, he⟩ := hasB_iff.1 h5
  obtain ⟨j, hj, rfl⟩ := List.mem_iff_getElem.1 hx
  exact ⟨j, hj, by unfold nm; rw [sx_get hj]; exact he⟩
end Go.Proofs.Ytdobkkoonamocaa.Mo
