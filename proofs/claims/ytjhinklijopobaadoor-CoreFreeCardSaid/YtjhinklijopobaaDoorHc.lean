import Derived.Test.YtjhinklijopobaaDoorHb
namespace Go.Proofs.YtjhinklijopobaaDoor.Co
open Go.RowKit Go.Lib Go.Proofs.YtjhinklijopobaaDoor.PCoreChecks Go.Proofs.YtjhinklijopobaaDoorW.PrintWords Go.Proofs.YtjhinklijopobaaDoorW.PrintLast Go.Proofs.YtjhinklijopobaaDoorW.PrintMore
set_option linter.unusedVariables false
set_option linter.unusedSimpArgs false

/-! ### slices.Equal over numbers -/
theorem getD_nat (l : List Int) (j : Nat) (h : j < l.length) : l.getD j 0 = l[j]'h := by
  rw [List.getD_eq_getElem?_getD, List.getElem?_eq_getElem h]; rfl
theorem eqI_calls (l m : List Int) (A B : Option Addr) (c d : Nat) (w : World) (hl : Kd.C (Kd.int .i64) w A l.length l) (hm : Kd.C (Kd.int .i64) w B m.length m) (hA : ∀ ad, A = some ad → ∃ g, ad = ⟨g, 0, none⟩) (hB : ∀ ad, B = some ad → ∃ g, ad = ⟨g, 0, none⟩) :
    Calls Tryd.prog 21 #[.slice A l.length c, .slice B m.length d] w fun e w' => e = .returned (.bool (decide (l = m))) ∧ Below w.heap.size w w' := by
  by_cases hlen : l.length = m.length
  · by_cases h0 : l.length = 0
    · obtain rfl := List.eq_nil_of_length_eq_zero h0
      obtain rfl := List.eq_nil_of_length_eq_zero (show m.length = 0 by omega)
      refine (Tryd.slices_Equal_int_empty A B c 0 d w (by decide)).mono ?_
      rintro e w' ⟨rfl, rfl⟩
      exact ⟨rfl, Below.refl _ _⟩
    · have key : ∀ (l : List Int) (A : Option Addr), Kd.C (Kd.int .i64) w A l.length l → (∀ ad, A = some ad → ∃ g, ad = ⟨g, 0, none⟩) → l.length ≠ 0 → ∃ g, A = some ⟨g, 0, none⟩ ∧ ∀ j, j < l.length → w.cell? ⟨g, 0 + j, none⟩ = some (.int .i64 (l.getD j 0)) := by
        intro l A hl hA h0
        obtain ⟨ad, rfl, _⟩ := Kd.at_int hl (0 : Int) (Int.le_refl _) (by omega)
        obtain ⟨g, rfl⟩ := hA ad rfl
        refine ⟨g, rfl, fun j hj => ?_⟩
        obtain ⟨ad', e, h2⟩ := Kd.at_int hl (j : Int) (by omega) (by omega)
        cases e
        rw [Int.toNat_natCast, add_plain, rd_nat l j hj] at h2
        rw [Nat.zero_add, h2, getD_nat l j hj]
      obtain ⟨b1, rfl, hc1⟩ := key l A hl hA h0
      obtain ⟨b2, rfl, hc2⟩ := key m B hm hB (by omega)
      have hb1 := hl.2.1
      have hb2 := hm.2.1
      refine (Tryd.slices_Equal_int b1 0 l.length c b2 0 m.length d l m w (Nat.le_refl _) (Nat.le_refl _) (by omega) (by omega) hc1 hc2).mono ?_
      rintro e w' ⟨rfl, q, rfl⟩
      refine ⟨?_, pw_below_drewN (Below.refl _ _) q⟩
      rw [List.take_length, List.take_length]
      congr 2
      rw [Bool.eq_iff_iff]; simp
  · refine (Tryd.slices_Equal_int_lens A B l.length c m.length d w hlen).mono ?_
    rintro e w' ⟨rfl, rfl⟩
    refine ⟨?_, Below.refl _ _⟩
    rw [decide_eq_false (fun h => hlen (by rw [h]))]

/-! ### core.Free -/
/-- A row of numbers that increases. -/
def FrT (S : Int → Prop) (er : Int) (w : World) (e : Ending) (w' : World) : Prop := ∃ (l : List Int) (A : Option Addr) (c : Nat), e = .returned (.tuple #[.slice A l.length c, .int .i64 er]) ∧ l.Pairwise (· < ·) ∧ (∀ z, z ∈ l ↔ S z) ∧ Kd.C (Kd.int .i64) w' A l.length l ∧ (∀ ad, A = some ad → ∃ g, ad = ⟨g, 0, none⟩) ∧ Below w.heap.size w w'
def freS (t : List S28) (n z : Int) : Prop := atE t n = 0 ∧ Fv t n.toNat z
theorem body_oks {t : List S28} (h : bodyErr t [] false = 0) : t.length ≤ 4096 ∧ treeB t = true ∧ ∀ x ∈ t, Ok x := by
  obtain ⟨hn, htr⟩ := body_zero h
  refine ⟨hn, htr, fun x hx => ok_of (flat := false) htr hn hx (firstE_all _ _ ?_ x hx)⟩
  unfold bodyErr at h
  rw [if_neg (by omega), if_pos htr] at h
  split at h
  · omega
  · split at h
    · assumption
    · rename_i h1 h2; exact absurd h h2
theorem FoP.row {w w' : World} {S : Int → Prop} {e : Ending} (h : FoP w S e w') : ∃ (l : List Int) (A : Option Addr) (c : Nat), e = .returned (.slice A l.length c) ∧ l.Pairwise (· < ·) ∧ (∀ z, z ∈ l ↔ S z) ∧ Kd.C (Kd.int .i64) w' A l.length l ∧ (∀ ad, A = some ad → ∃ g, ad = ⟨g, 0, none⟩) ∧ Below w.heap.size w w' := by
  obtain ⟨l, A, c, rfl, h1, h2, h3, h4⟩ := h
  have hR : Kd.R (Kd.int .i64) 3 w' w.heap.size (fun _ => True) (.slice A l.length c) l := Kd.R_of_own h3 (fun _ _ => trivial)
  refine ⟨l, A, c, rfl, h1, h2, (Kd.R_reads' hR).2.2, fun ad e => ?_, h4⟩
  rcases h3.2 with ⟨e2, _⟩ | ⟨g, cap, cur, e2, _⟩
  · injection e2 with e3; rw [e] at e3; cases e3
  · injection e2 with e3; rw [e] at e3; injection e3 with e3; exact ⟨g, e3⟩
theorem FrT.nil {S : Int → Prop} {er : Int} {w w' : World} (h : ∀ z, ¬ S z) (hb : Below w.heap.size w w') : FrT S er w (.returned (.tuple #[.slice none 0 0, .int .i64 er])) w' :=
  ⟨[], none, 0, rfl, List.Pairwise.nil, fun z => ⟨fun h => absurd h List.not_mem_nil, fun h2 => absurd h2 (h z)⟩, Kd.C_nil _ _, (fun _ h => by cases h), hb⟩
set_option maxHeartbeats 4000000 in
set_option maxRecDepth 100000 in
theorem free_api (t : List S28) (n : Int) (A0 : Option Addr) (c0 : Nat) (w : World) (h : Ein w t A0 c0) (hT : Tab w) : Calls Tryd.prog 18 #[.slice A0 t.length c0, .int .i64 n] w (FrT (freS t n) (atE t n) w) := by
  have HC := Go.Lib.hid (at_calls t n A0 c0 w h hT)
  have HE := Go.Lib.hid h
  clear h hT
  go_enter Tryd.func18, Tryd.ntmps18
  go_wp2_with fail
  refine HC.out.mono ?_
  rintro e w1 ⟨rfl, hb1⟩
  have HB := Go.Lib.hid hb1
  clear hb1 HC
  by_cases h0 : atE t n = 0
  · have b1 : (atE t n == 0) = true := beq_iff_eq.2 h0
    have b2 : (atE t n != 0) = false := by rw [bne, b1]; rfl
    obtain ⟨hz, h1, h2⟩ := atE_zero h0
    obtain ⟨hn, htr, hok⟩ := body_oks hz
    obtain ⟨k, rfl⟩ : ∃ k : Nat, n = (k : Int) := ⟨n.toNat, by omega⟩
    have HBC := Go.Lib.hid (below_calls t htr hn k (by omega) A0 c0 HE.out.hc w1 (Kd.C_below HE.out.hr HB.out))
    have HCC := Go.Lib.hid (fun w0 ps hT => freeOf_calls t ps w0 (k + 1) hT htr hn hok k (by omega) (by omega))
    have HS := Go.Lib.hid (show ∀ z, Fv t k z ↔ freS t (k : Int) z from fun z => ⟨fun h => ⟨h0, h⟩, fun h => h.2⟩)
    have HZ := Go.Lib.hid h0
    clear h0 h1 h2 hz hn htr hok
    go_wp2_with fail
    refine HBC.out.mono ?_
    rintro e w2 ⟨ps, rfl, hF, hb2⟩
    have HB2 := Go.Lib.hid (below_step HB.out hb2)
    have HC2 := Go.Lib.hid (HCC.out w2 ps hF)
    clear hF hb2 HBC HCC
    go_wp2_with fail
    refine HC2.out.mono ?_
    rintro e w3 hfo
    obtain ⟨l, A, c, rfl, h1, h2, h3, h4, h5⟩ := hfo.row
    have HV := Go.Lib.hid (show FrT (freS t (k : Int)) (atE t (k : Int)) w (.returned (.tuple #[.slice A l.length c, .int .i64 0])) w3 from ⟨l, A, c, by rw [HZ.out], h1, fun z => (h2 z).trans (HS.out z), h3, h4, below_step HB2.out h5⟩)
    clear HC2 hfo h1 h2 h3 h4 h5
    go_wp2_with fail
    go_ret2
    exact HV.out
  · have b1 : (atE t n == 0) = false := beq_eq_false_iff_ne.2 h0
    have b2 : (atE t n != 0) = true := by rw [bne, b1]; rfl
    have HV := Go.Lib.hid (FrT.nil (S := freS t n) (er := atE t n) (fun z hz => h0 hz.1) HB.out)
    clear h0
    go_wp2_with fail
    go_ret2
    exact HV.out

/-! ### The example: a function of one variable -/
def oneF : List S28 := [⟨0, 1, [], [], []⟩, ⟨2, 0, [1], [0], []⟩]
theorem oneF_tree : treeB oneF = true := by decide
theorem oneF_lst : lst oneF 2 1 0 = oneF := rfl
def oneFw (w : World) : World := ((((w.alloc (.cells #[.int .i64 1] 3)).alloc (.cells #[.int .i64 0, .int .i64 1, .slice none 0 0, .slice none 0 0, .slice none 0 0, .slice none 0 0] 76)).alloc (.cells #[ptrV (w.heap.size + 1)] 32)).alloc (.cells #[.int .i64 2, .int .i64 0, .slice (some ⟨w.heap.size, 0, none⟩) 1 1, .slice none 0 0, .slice none 0 0, .slice (some ⟨w.heap.size + 2, 0, none⟩) 1 1] 76))
theorem one_C {α : Type} (k : Kd α) {W : World} {g e : Nat} {v : Value} {x : α} (h : W.heap[g]? = some (.cells #[v] e (0, 0))) (hs : k.sz = 1) (hK : k.K W x [v]) : Kd.C k W (some ⟨g, 0, none⟩) [x].length [x] := by
  refine ⟨rfl, by simp, fun _ => ⟨_, rfl, fun j p hj => ?_⟩⟩
  have hj0 : j = 0 := by
    have := (List.getElem?_eq_some_iff.1 hj).1
    simp at this; omega
  subst hj0
  have hp : p = x := by simpa using hj.symm
  subst hp
  refine ⟨[v], by rw [hs]; rfl, hK, fun i u hu => ?_⟩
  rw [Nat.zero_mul, Nat.zero_add, add_plain, blk_cell h]
  simpa using hu
theorem oneF_rf (w : World) : Rf (oneFw w) oneF 2 (fun i => if i = 0 then w.heap.size + 1 else w.heap.size + 3) := by
  have e0 : (oneFw w).heap[w.heap.size]? = some (.cells #[.int .i64 1] 3 (0, 0)) := blk_alloc (blk_alloc (blk_alloc (blk_new _ _) _) _) _
  have e1 : (oneFw w).heap[w.heap.size + 1]? = some (.cells #[.int .i64 0, .int .i64 1, .slice none 0 0, .slice none 0 0, .slice none 0 0, .slice none 0 0] 76 (0, 0)) := by
    have h := blk_new (w.alloc (.cells #[.int .i64 1] 3)) (.cells #[.int .i64 0, .int .i64 1, .slice none 0 0, .slice none 0 0, .slice none 0 0, .slice none 0 0] 76)
    rw [show (w.alloc (.cells #[.int .i64 1] 3)).heap.size = w.heap.size + 1 by simp] at h
    exact blk_alloc (blk_alloc h _) _
  have e2 : (oneFw w).heap[w.heap.size + 2]? = some (.cells #[ptrV (w.heap.size + 1)] 32 (0, 0)) := by
    have h := blk_new ((w.alloc (.cells #[.int .i64 1] 3)).alloc (.cells #[.int .i64 0, .int .i64 1, .slice none 0 0, .slice none 0 0, .slice none 0 0, .slice none 0 0] 76)) (.cells #[ptrV (w.heap.size + 1)] 32)
    rw [show ((w.alloc (.cells #[.int .i64 1] 3)).alloc (.cells #[.int .i64 0, .int .i64 1, .slice none 0 0, .slice none 0 0, .slice none 0 0, .slice none 0 0] 76)).heap.size = w.heap.size + 2 by simp] at h
    exact blk_alloc h _
  have e3 : (oneFw w).heap[w.heap.size + 3]? = some (.cells #[.int .i64 2, .int .i64 0, .slice (some ⟨w.heap.size, 0, none⟩) 1 1, .slice none 0 0, .slice none 0 0, .slice (some ⟨w.heap.size + 2, 0, none⟩) 1 1] 76 (0, 0)) := by
    have h := blk_new (((w.alloc (.cells #[.int .i64 1] 3)).alloc (.cells #[.int .i64 0, .int .i64 1, .slice none 0 0, .slice none 0 0, .slice none 0 0, .slice none 0 0] 76)).alloc (.cells #[ptrV (w.heap.size + 1)] 32)) (.cells #[.int .i64 2, .int .i64 0, .slice (some ⟨w.heap.size, 0, none⟩) 1 1, .slice none 0 0, .slice none 0 0, .slice (some ⟨w.heap.size + 2, 0, none⟩) 1 1] 76)
    rw [show (((w.alloc (.cells #[.int .i64 1] 3)).alloc (.cells #[.int .i64 0, .int .i64 1, .slice none 0 0, .slice none 0 0, .slice none 0 0, .slice none 0 0] 76)).alloc (.cells #[ptrV (w.heap.size + 1)] 32)).heap.size = w.heap.size + 3 by simp] at h
    exact h
  intro i hi h1
  match i, hi, h1 with
  | 0, _, _ => exact ⟨none, 0, none, 0, 0, none, 0, none, 0, e1, Nat.le_refl _, Kd.C_nil _ _, Nat.le_refl _, Kd.C_nil _ _, Nat.le_refl _, Kd.C_nil _ _⟩
  | 1, _, _ => exact ⟨some ⟨w.heap.size, 0, none⟩, 1, none, 0, 0, none, 0, some ⟨w.heap.size + 2, 0, none⟩, 1, e3, Nat.le_refl _, one_C (Kd.int .i64) e0 rfl rfl, Nat.le_refl _, Kd.C_nil _ _, Nat.le_refl _, one_C kp e2 rfl rfl⟩
theorem oneF_ein {w : World} {A : Option Addr} {c : Nat} (hl : oneF.length ≤ c) (hr : Kd.C k28 w A oneF.length oneF) : Ein w oneF A c := by
  refine ⟨fun x hx => ?_, fun x hx => ?_, hl, hr⟩
  · unfold oneF at hx
    rcases List.mem_cons.1 hx with rfl | hx
    · exact ⟨by simp, by simp, by simp, by simp⟩
    · rw [List.mem_singleton.1 hx]; exact ⟨by simp, by simp, by simp, by simp⟩
  · unfold oneF at hx
    rcases List.mem_cons.1 hx with rfl | hx
    · simp
    · rw [List.mem_singleton.1 hx]; simp
theorem oneF_fv1 (z : Int) : ¬ Fv oneF 1 z := by
  intro hf
  cases hf with
  | var _ h h0 => exact absurd h0 (by simp [oneF])
  | kid _ h k hk c _ hc hn hf =>
    have hk0 : k = 0 := by simp [oneF] at hk; omega
    subst hk0
    have hc0 : c = 0 := by simp [oneF] at hc; omega
    subst hc0
    cases hf with
    | var _ h h0 => exact hn (by simp [oneF, scopeOf])
    | kid _ h k hk c _ hc hn hf => exact absurd hk (by simp [oneF])
theorem oneF_body : bodyErr oneF [] false = 0 := by
  refine body_ok (by decide) oneF_tree (by decide) (by decide) (by decide) ?_
  obtain ⟨P, hP⟩ := par_exists oneF_tree
  rw [badName_iff hP []]
  rintro ⟨n, hf, _⟩
  exact oneF_fv1 n hf
theorem oneF_free : atE oneF 0 = 0 ∧ ∀ z, freS oneF 0 z ↔ z = 1 := by
  have h := atE_ok (n := 0) oneF_body (Int.le_refl _) (by decide)
  refine ⟨h, fun z => ⟨fun hf => ?_, fun hz => ⟨h, ?_⟩⟩⟩
  · obtain ⟨_, hf⟩ := hf
    cases hf with
    | var _ h h0 => simp [oneF]
    | kid _ h k hk c _ hc hn hf => exact absurd hk (by simp [oneF])
  · subst hz
    exact Fv.var (t := oneF) 0 (by decide) rfl
end Go.Proofs.YtjhinklijopobaaDoor.Co
