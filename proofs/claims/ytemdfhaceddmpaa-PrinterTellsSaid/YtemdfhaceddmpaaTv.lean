import Derived.Test.YtemdfhaceddmpaaTu
import Derived.Test.YtemdfhaceddmpaaTq
import Derived.RegionTactic
import Derived.BigRegion
import Derived.StillTailTactics
namespace Go.Proofs.Ytemdfhaceddmpaa.Tr
open Go.Shelf Go.RowKit Go.Proofs.Ytemdfhaceddmpaa.PPrinterTells Go.Proofs.YtemdfhaceddmpaaW.PrintWords Go.Proofs.YtemdfhaceddmpaaW.PrintLast Go.Proofs.YtemdfhaceddmpaaW.PrintMore
set_option linter.unusedVariables false
set_option linter.unusedSimpArgs false

theorem lit_N {W : World} {b : Nat} {x : S27} {cs : Array Value} (h : W.heap[b]? = some (.cells cs 27 (0, 0))) (hcs : cs = #[.int .i64 x.f0, .string x.f1, .int .i64 x.f2, .slice none 0 0, .int .i64 x.f4, .int .i64 x.f5]) (hx : x.f3 = []) : Kd.C k27 W (some ⟨b, 0, none⟩) [x].length [x] := by
  subst hcs
  refine ⟨rfl, by simp, fun _ => ⟨_, rfl, fun j p hj => ?_⟩⟩
  have hj0 : j = 0 := by have := (List.getElem?_eq_some_iff.1 hj).1; simp at this; omega
  subst hj0
  obtain rfl : x = p := by simpa using hj
  refine ⟨[.int .i64 x.f0, .string x.f1, .int .i64 x.f2, .slice none x.f3.length 0, .int .i64 x.f4, .int .i64 x.f5], rfl, k27_mk W x (by rw [hx]; exact Nat.le_refl _) (by rw [hx]; exact Kd.C_nil _ W), fun i u hu => ?_⟩
  rw [add_plain, blk_cell h]
  rw [hx] at hu
  simpa using hu
theorem eqN_refl (x : S27) : eqN x x = true := by simp [eqN]
theorem eqL_refl : ∀ l : List S27, eqL l l = true
  | [] => rfl
  | x :: l => by rw [eqL, eqN_refl, eqL_refl l]; rfl
theorem eqL_set : ∀ (l : List S27) (i : Nat) (h : i < l.length) (y : S27), eqL l (l.set i y) = eqN l[i] y ∧ eqL (l.set i y) l = eqN y l[i]
  | [], i, h, y => absurd h (Nat.not_lt_zero _)
  | x :: l, 0, h, y => by simp [eqL, eqL_refl]
  | x :: l, i + 1, h, y => by
    have := eqL_set l i (by simpa using h) y
    simp [eqL, eqN_refl, this.1, this.2]
theorem wrap_ne (a k : Int) (h0 : 0 < k) (h1 : k < 18446744073709551616) : wrap64 (a + k) ≠ a := by
  intro h
  unfold wrap64 at h
  omega
def nA (k : Int) : S27 := ⟨0, ⟨#[65]⟩, 0, [], k, 0⟩
theorem tmod_facts (a n : Int) (hn : 0 < n) : -n < a.tmod n ∧ a.tmod n < n := ⟨Int.lt_tmod_of_pos a hn, Int.tmod_lt_of_pos a hn⟩
theorem tmod_nn (a n : Int) (ha : 0 ≤ a) (hn : 0 < n) : 0 ≤ a.tmod n ∧ a.tmod n < n := ⟨Int.tmod_nonneg n ha, Int.tmod_lt_of_pos a hn⟩

theorem same_two {w w2 W : World} {g : Nat} {t us : List S27} {ad : Addr} {b : Bool} (hr : Kd.C k27 w (some ad) t.length t) (hb : Below w.heap.size w W) (hU : UR w2 W g us) (hl : t.length ≤ 4611686018427387904) (hk : ∀ y ∈ t, y.f3.length ≤ 4611686018427387904) (hk2 : ∀ y ∈ us, y.f3.length ≤ 4611686018427387904)
    (h1 : eqL t us = b) (h2 : eqL us t = b) (hlen : us.length = t.length) (c0 c : Nat) :
    (Calls Try.prog 7 #[.slice (some ad) t.length c0, .slice (some ⟨g, 0, none⟩) t.length c] W fun e w' => e = .returned (.bool b) ∧ Below W.heap.size W w') ∧
    ∀ Wx, Below W.heap.size W Wx → Calls Try.prog 7 #[.slice (some ⟨g, 0, none⟩) t.length c, .slice (some ad) t.length c0] Wx fun e w' => e = .returned (.bool b) ∧ Below Wx.heap.size Wx w' := by
  constructor
  · have h := same_calls t us (some ad) (some ⟨g, 0, none⟩) c0 c W (Kd.C_below hr hb) hU.C hl hk
    rw [h1, hlen] at h
    exact h
  · intro Wx hbx
    have h := same_calls us t (some ⟨g, 0, none⟩) (some ad) c c0 Wx (hU.lift hbx).C (Kd.C_below hr (below_step hb hbx)) (by rw [hlen]; exact hl) hk2
    rw [h2, hlen] at h
    exact h
theorem ur0 {w W : World} {g : Nat} {us : List S27} (h : UR w W g us) (i : Nat) (hi : i < us.length) {x : S27} (hx : us[i] = x) (y : Int) : UR w (W.setCell ⟨g, i * 6, none⟩ (.int .i64 y)) g (us.set i (⟨y, x.f1, x.f2, x.f3, x.f4, x.f5⟩ : S27)) :=
  h.put i hi 0 (by decide) _ _ (fun c h => by rw [hx] at h; obtain ⟨A, d, rfl, l, g⟩ := k27_open h; exact k27_mk w (⟨y, x.f1, x.f2, x.f3, x.f4, x.f5⟩ : S27) l g)
theorem ur1 {w W : World} {g : Nat} {us : List S27} (h : UR w W g us) (i : Nat) (hi : i < us.length) {x : S27} (hx : us[i] = x) (y : ByteArray) : UR w (W.setCell ⟨g, i * 6 + 1, none⟩ (.string y)) g (us.set i (⟨x.f0, y, x.f2, x.f3, x.f4, x.f5⟩ : S27)) :=
  h.put i hi 1 (by decide) _ _ (fun c h => by rw [hx] at h; obtain ⟨A, d, rfl, l, g⟩ := k27_open h; exact k27_mk w (⟨x.f0, y, x.f2, x.f3, x.f4, x.f5⟩ : S27) l g)
theorem ur2 {w W : World} {g : Nat} {us : List S27} (h : UR w W g us) (i : Nat) (hi : i < us.length) {x : S27} (hx : us[i] = x) (y : Int) : UR w (W.setCell ⟨g, i * 6 + 2, none⟩ (.int .i64 y)) g (us.set i (⟨x.f0, x.f1, y, x.f3, x.f4, x.f5⟩ : S27)) :=
  h.put i hi 2 (by decide) _ _ (fun c h => by rw [hx] at h; obtain ⟨A, d, rfl, l, g⟩ := k27_open h; exact k27_mk w (⟨x.f0, x.f1, y, x.f3, x.f4, x.f5⟩ : S27) l g)

theorem ur4 {w W : World} {g : Nat} {us : List S27} (h : UR w W g us) (i : Nat) (hi : i < us.length) {x : S27} (hx : us[i] = x) (y : Int) : UR w (W.setCell ⟨g, i * 6 + 4, none⟩ (.int .i64 y)) g (us.set i (⟨x.f0, x.f1, x.f2, x.f3, y, x.f5⟩ : S27)) :=
  h.put i hi 4 (by decide) _ _ (fun c h => by rw [hx] at h; obtain ⟨A, d, rfl, l, g⟩ := k27_open h; exact k27_mk w (⟨x.f0, x.f1, x.f2, x.f3, y, x.f5⟩ : S27) l g)
theorem ur5 {w W : World} {g : Nat} {us : List S27} (h : UR w W g us) (i : Nat) (hi : i < us.length) {x : S27} (hx : us[i] = x) (y : Int) : UR w (W.setCell ⟨g, i * 6 + 5, none⟩ (.int .i64 y)) g (us.set i (⟨x.f0, x.f1, x.f2, x.f3, x.f4, y⟩ : S27)) :=
  h.put i hi 5 (by decide) _ _ (fun c h => by rw [hx] at h; obtain ⟨A, d, rfl, l, g⟩ := k27_open h; exact k27_mk w (⟨x.f0, x.f1, x.f2, x.f3, x.f4, y⟩ : S27) l g)
theorem ur45 {w W : World} {g : Nat} {us : List S27} (h : UR w W g us) (i : Nat) (hi : i < us.length) {x : S27} (hx : us[i] = x) (y z : Int) : UR w ((W.setCell ⟨g, i * 6 + 4, none⟩ (.int .i64 y)).setCell ⟨g, i * 6 + 5, none⟩ (.int .i64 z)).drew g (us.set i (⟨x.f0, x.f1, x.f2, x.f3, y, z⟩ : S27)) := by
  have h1 := ur5 (ur4 h i hi hx y) i (by rw [List.length_set]; exact hi) (x := ⟨x.f0, x.f1, x.f2, x.f3, y, x.f5⟩) (by simp) z
  rw [List.set_set] at h1
  exact h1.lift (below_drew (Below.refl _ _))
theorem ur3 {w W : World} {g : Nat} {us : List S27} (h : UR w W g us) (i : Nat) (hi : i < us.length) {x : S27} (hx : us[i] = x) {A3 : Option Addr} {c3 : Nat} (hl : x.f3.length ≤ c3) (hC : Kd.C (Kd.int .i64) w A3 x.f3.length x.f3) : UR w (W.setCell ⟨g, i * 6 + 3, none⟩ (.slice A3 (x.f3.length - 1) c3)).drew g (us.set i (⟨x.f0, x.f1, x.f2, x.f3.take (x.f3.length - 1), x.f4, x.f5⟩ : S27)) := by
  have e : (x.f3.take (x.f3.length - 1)).length = x.f3.length - 1 := by rw [List.length_take]; omega
  have h1 := h.put i hi 3 (by decide) (.slice A3 (x.f3.length - 1) c3) (⟨x.f0, x.f1, x.f2, x.f3.take (x.f3.length - 1), x.f4, x.f5⟩ : S27) (fun c h => by
    rw [hx] at h
    obtain ⟨A, d, rfl, l, g⟩ := k27_open h
    have h2 := k27_mk w (⟨x.f0, x.f1, x.f2, x.f3.take (x.f3.length - 1), x.f4, x.f5⟩ : S27) (A3 := A3) (c3 := c3) (by show (x.f3.take (x.f3.length - 1)).length ≤ c3; omega) (Kd.C_take hC (by omega))
    have h3 : k27.K w (⟨x.f0, x.f1, x.f2, x.f3.take (x.f3.length - 1), x.f4, x.f5⟩ : S27) [.int .i64 x.f0, .string x.f1, .int .i64 x.f2, .slice A3 (x.f3.take (x.f3.length - 1)).length c3, .int .i64 x.f4, .int .i64 x.f5] := h2
    rw [e] at h3
    exact h3)
  exact h1.lift (below_drew (Below.refl _ _))

set_option maxHeartbeats 1000000 in
set_option maxRecDepth 100000 in
theorem law_calls (t : List S27) (A0 : Option Addr) (c0 : Nat) (at_ what : Int) (text : ByteArray) (w : World) (hr : Kd.C k27 w A0 t.length t) (hc : t.length ≤ c0) (hl : ∀ x ∈ t, QN x) (hs : text.size ≤ 140737488351232) :
    Calls Try.prog 4 #[.slice A0 t.length c0, .int .i64 at_, .int .i64 what, .string text] w fun e w' => e = .returned (.bool true) ∧ Below w.heap.size w w' := by
  have HR := Go.Lib.hid hr
  have HC := Go.Lib.hid hc
  have HL := Go.Lib.hid hl
  have HS := Go.Lib.hid hs
  have htm : (t.length : Int) ≤ 9223372036854775807 := by have := hr.2.1; omega
  have HB0 := Go.Lib.hid (below_alloc (below_alloc (Below.refl w.heap.size w) (.cells #[.int .i64 0, .string ⟨#[65]⟩, .int .i64 0, .slice none 0 0, .int .i64 0, .int .i64 0] 27)) (.cells #[.int .i64 0, .string ⟨#[65]⟩, .int .i64 0, .slice none 0 0, .int .i64 3, .int .i64 0] 27))
  have H1 := Go.Lib.hid (same_calls [nA 0] [nA 3] (some ⟨w.heap.size, 0, none⟩) (some ⟨w.heap.size + 1, 0, none⟩) 1 1 ((w.alloc (.cells #[.int .i64 0, .string ⟨#[65]⟩, .int .i64 0, .slice none 0 0, .int .i64 0, .int .i64 0] 27)).alloc (.cells #[.int .i64 0, .string ⟨#[65]⟩, .int .i64 0, .slice none 0 0, .int .i64 3, .int .i64 0] 27))
    (lit_N (blk_alloc (blk_new _ _) _) rfl rfl) (lit_N (by have h := blk_new (w.alloc (.cells #[.int .i64 0, .string ⟨#[65]⟩, .int .i64 0, .slice none 0 0, .int .i64 0, .int .i64 0] 27)) (.cells #[.int .i64 0, .string ⟨#[65]⟩, .int .i64 0, .slice none 0 0, .int .i64 3, .int .i64 0] 27); rw [show (w.alloc (.cells #[.int .i64 0, .string ⟨#[65]⟩, .int .i64 0, .slice none 0 0, .int .i64 0, .int .i64 0] 27)).heap.size = w.heap.size + 1 by simp] at h; exact h) rfl rfl) (by decide) (by decide))
  clear hr hc hl hs
  go_enter Try.func4, Try.ntmps4
  go_wp2_with fail
  refine H1.out.mono ?_
  rintro e w1 ⟨rfl, hb1⟩
  have HB1 := Go.Lib.hid (HB0.out.trans (hb1.mono HB0.out.size))
  clear hb1 H1 HB0
  have he1 : eqL [nA 0] [nA 3] = true := by decide
  by_cases h0 : t.length = 0
  · have e1 : ((t.length : Int) == 0) = true := beq_iff_eq.2 (by omega)
    have e2 : (t.length == 0) = true := beq_iff_eq.2 h0
    clear h0
    go_wp2_with fail
    go_ret
    exact ⟨rfl, HB1.out⟩
  have e1 : ((t.length : Int) == 0) = false := beq_eq_false_iff_ne.2 (by omega)
  have e2 : (t.length == 0) = false := beq_eq_false_iff_ne.2 h0
  have hn0 : (0 : Int) < (t.length : Int) := by omega
  have HN := Go.Lib.hid (show 0 < t.length by omega)
  clear h0
  have HT := Go.Lib.hid (tree_calls t A0 c0 w1 (Kd.C_below HR.out HB1.out) HC.out (fun x hx => (HL.out x hx).1))
  have HTE := Go.Lib.hid (show treeErr t = 0 → t.length ≤ 4096 from fun h => by
    unfold treeErr at h
    split at h
    · exact absurd h (by decide)
    · omega)
  generalize treeErr t = er at HT HTE
  go_wp2_with fail
  refine HT.out.mono ?_
  rintro e w2 ⟨rfl, hb2⟩
  have HB2 := Go.Lib.hid (below_step HB1.out hb2)
  clear hb2 HT HB1
  by_cases her : er = 0
  rotate_left
  · have g1 : (er != 0) = true := bne_iff_ne.2 her
    clear her
    go_wp2_with fail
    go_ret
    exact ⟨rfl, HB2.out⟩
  have g1 : (er != 0) = false := bne_eq_false_iff_eq.2 her
  have HT4 := Go.Lib.hid (HTE.out her)
  clear her HTE
  obtain ⟨ad, rfl⟩ : ∃ ad, A0 = some ad := by
    obtain ⟨ad, e, _⟩ := HR.out.2.2 HN.out
    exact ⟨ad, e⟩
  have HCL := Go.Lib.hid (clone_calls t ad c0 w2 (Kd.C_below HR.out HB2.out) HN.out HT4.out)
  go_wp2_with fail
  refine HCL.out.mono ?_
  rintro e w3 ⟨g, c, rfl, hgc, hU⟩
  have HU := Go.Lib.hid hU
  have HGC := Go.Lib.hid hgc
  have HB3 := Go.Lib.hid (below_step HB2.out hU.below)
  clear hU hgc HCL
  have hn4 : (t.length : Int) ≤ 4096 := by have := HT4.out; omega
  obtain ⟨r1, hr1⟩ : ∃ r, at_.tmod (t.length : Int) = r := ⟨_, rfl⟩
  obtain ⟨hm1, hm2⟩ := tmod_facts at_ (t.length : Int) hn0
  rw [hr1] at hm1 hm2
  obtain ⟨i, hi⟩ : ∃ i : Nat, (r1 + (t.length : Int)).tmod (t.length : Int) = (i : Int) := by
    obtain ⟨h1, h2⟩ := tmod_nn (r1 + (t.length : Int)) (t.length : Int) (by omega) hn0
    exact ⟨((r1 + (t.length : Int)).tmod (t.length : Int)).toNat, by omega⟩
  have hi2 : (r1 + (t.length : Int)) % (t.length : Int) = (i : Int) := by rw [← hi]; exact (Int.tmod_eq_emod_of_nonneg (by omega)).symm
  have hit : (i : Int) < (t.length : Int) := by rw [← hi]; exact (tmod_nn _ _ (by omega) hn0).2
  have HIT := Go.Lib.hid (show i < t.length by omega)
  obtain ⟨r3, hr3⟩ : ∃ r, what.tmod 5 = r := ⟨_, rfl⟩
  obtain ⟨hm3, hm4⟩ := tmod_facts what 5 (by decide)
  rw [hr3] at hm3 hm4
  obtain ⟨q, hq⟩ : ∃ q : Int, (r3 + 5).tmod 5 = q := ⟨_, rfl⟩
  have hq2 : (r3 + 5) % 5 = q := by rw [← hq]; exact (Int.tmod_eq_emod_of_nonneg (by omega)).symm
  have hq3 : 0 ≤ q ∧ q < 5 := by rw [← hq]; exact tmod_nn _ _ (by omega) (by decide)
  have HQ := Go.Lib.hid hq3
  clear hq3
  obtain ⟨A3, c3, u0, u1, u2, u3, u4, u5, l3, g3⟩ := HU.out.at_ i HIT.out
  have L3 := Go.Lib.hid l3
  have G3 := Go.Lib.hid g3
  clear l3 g3
  have f0 := HU.out.frozen (i * 6)
  have f1 := HU.out.frozen (i * 6 + 1)
  have f2 := HU.out.frozen (i * 6 + 2)
  have f3 := HU.out.frozen (i * 6 + 3)
  have f4 := HU.out.frozen (i * 6 + 4)
  have f5 := HU.out.frozen (i * 6 + 5)
  have HXF := Go.Lib.hid (HL.out _ (List.getElem_mem HIT.out))
  have HXX := Go.Lib.hid (show t[i]'HIT.out = t[i]'HIT.out from rfl)
  generalize hx : t[i]'HIT.out = x at u0 u1 u2 u3 u4 u5 L3 G3 HXF
  have HX := Go.Lib.hid hx
  clear hx HXX
  have hx1 : x.f1.size ≤ 140737488351232 := HXF.out.2
  have hts : (text.size : Int) ≤ 140737488351232 := by have := HS.out; omega
  have hz1 : (⟨#[122]⟩ : ByteArray).size + text.size ≤ 9223372036854775807 := by have := HS.out; have h : (⟨#[122]⟩ : ByteArray).size = 1 := rfl; omega
  obtain ⟨sA, hsA⟩ : ∃ s, (⟨#[122]⟩ : ByteArray) ++ text = s := ⟨_, rfl⟩
  have HSA := Go.Lib.hid (show sA.size = 1 + text.size by rw [← hsA, ByteArray.size_append]; rfl)
  have hz2 : x.f1.size + sA.size ≤ 9223372036854775807 := by have := HS.out; have := HSA.out; omega
  obtain ⟨sB, hsB⟩ : ∃ s, x.f1 ++ sA = s := ⟨_, rfl⟩
  have HSB := Go.Lib.hid (show ¬ sB = x.f1 from fun e => by rw [← hsB] at e; have h := congrArg ByteArray.size e; rw [ByteArray.size_append] at h; have := HSA.out; omega)
  have HK1 := Go.Lib.hid (show ∀ y ∈ t, y.f3.length ≤ 4611686018427387904 from fun y hy => by have := (HL.out y hy).1; omega)
  have HTL := Go.Lib.hid (show t.length ≤ 4611686018427387904 by have := HT4.out; omega)
  have HXL := Go.Lib.hid (show x.f3.length ≤ 4611686018427387904 by have := HXF.out.1; omega)
  by_cases hq0 : q = 0
  · obtain rfl := hq0
    have HEQ := Go.Lib.hid (show eqN (t[i]'HIT.out) (⟨wrap64 (x.f0 + 1), x.f1, x.f2, x.f3, x.f4, x.f5⟩ : S27) = false ∧ eqN (⟨wrap64 (x.f0 + 1), x.f1, x.f2, x.f3, x.f4, x.f5⟩ : S27) (t[i]'HIT.out) = false by
      rw [HX.out]
      have h : ¬ wrap64 (x.f0 + 1) = x.f0 := wrap_ne x.f0 1 (by decide) (by decide)
      unfold eqN
      exact ⟨by rw [decide_eq_false (p := x.f0 = wrap64 (x.f0 + 1)) (fun e => h e.symm)]; simp, by rw [decide_eq_false (p := wrap64 (x.f0 + 1) = x.f0) h]; simp⟩)
    have HU2 := Go.Lib.hid (show UR w2 (w3.setCell ⟨g, i * 6, none⟩ (.int .i64 (wrap64 (x.f0 + 1)))) g (t.set i (⟨wrap64 (x.f0 + 1), x.f1, x.f2, x.f3, x.f4, x.f5⟩ : S27)) from ur0 HU.out i HIT.out HX.out _)
    have HB4 := Go.Lib.hid (show Below w.heap.size w (w3.setCell ⟨g, i * 6, none⟩ (.int .i64 (wrap64 (x.f0 + 1)))) from below_weaken HB2.out HB2.out.size HU2.out.below)
    have HK2 := Go.Lib.hid (show ∀ y ∈ t.set i (⟨wrap64 (x.f0 + 1), x.f1, x.f2, x.f3, x.f4, x.f5⟩ : S27), y.f3.length ≤ 4611686018427387904 from fun y hy => by
      rcases List.mem_or_eq_of_mem_set hy with h | h
      · exact HK1.out y h
      · rw [h]; exact HXL.out)
    have HS12 := Go.Lib.hid (same_two HR.out HB4.out HU2.out HTL.out HK1.out HK2.out (by rw [(eqL_set t i HIT.out (⟨wrap64 (x.f0 + 1), x.f1, x.f2, x.f3, x.f4, x.f5⟩ : S27)).1, HEQ.out.1]) (by rw [(eqL_set t i HIT.out (⟨wrap64 (x.f0 + 1), x.f1, x.f2, x.f3, x.f4, x.f5⟩ : S27)).2, HEQ.out.2]) List.length_set c0 c)
    go_wp2_with fail
    refine HS12.out.1.mono ?_
    rintro e w5 ⟨rfl, hb5⟩
    have HS3 := Go.Lib.hid (HS12.out.2 w5 hb5)
    have HB5 := Go.Lib.hid (below_step HB4.out hb5)
    clear hb5 HS12
    go_wp2_with fail
    refine HS3.out.mono ?_
    rintro e w6 ⟨rfl, hb6⟩
    have HB6 := Go.Lib.hid (below_step HB5.out hb6)
    have HC6 := Go.Lib.hid (clone_calls t ad c0 w6 (Kd.C_below HR.out HB6.out) HN.out HT4.out)
    clear hb6 HS3
    go_wp2_with fail
    refine HC6.out.mono ?_
    rintro e w7 ⟨g7, c7, rfl, -, hU7⟩
    have HB7 := Go.Lib.hid (below_step HB6.out hU7.below)
    have HS7 := Go.Lib.hid (same_calls t t (some ad) (some ⟨g7, 0, none⟩) c0 c7 w7 (Kd.C_below HR.out HB7.out) hU7.C HTL.out HK1.out)
    rw [eqL_refl] at HS7
    clear hU7 HC6
    go_wp2_with fail
    refine HS7.out.mono ?_
    rintro e w8 ⟨rfl, hb8⟩
    have HB8 := Go.Lib.hid (below_step HB7.out hb8)
    clear hb8 HS7
    go_wp2_with fail
    go_ret
    exact ⟨rfl, HB8.out⟩
  by_cases hq1 : q = 1
  · obtain rfl := hq1
    have HEQ := Go.Lib.hid (show eqN (t[i]'HIT.out) (⟨x.f0, sB, x.f2, x.f3, x.f4, x.f5⟩ : S27) = false ∧ eqN (⟨x.f0, sB, x.f2, x.f3, x.f4, x.f5⟩ : S27) (t[i]'HIT.out) = false by
      rw [HX.out]
      have h : ¬ sB = x.f1 := HSB.out
      unfold eqN
      exact ⟨by rw [decide_eq_false (p := x.f1 = sB) (fun e => h e.symm)]; simp, by rw [decide_eq_false (p := sB = x.f1) h]; simp⟩)
    have HU2 := Go.Lib.hid (show UR w2 (w3.setCell ⟨g, i * 6 + 1, none⟩ (.string sB)) g (t.set i (⟨x.f0, sB, x.f2, x.f3, x.f4, x.f5⟩ : S27)) from ur1 HU.out i HIT.out HX.out _)
    have HB4 := Go.Lib.hid (show Below w.heap.size w (w3.setCell ⟨g, i * 6 + 1, none⟩ (.string sB)) from below_weaken HB2.out HB2.out.size HU2.out.below)
    have HK2 := Go.Lib.hid (show ∀ y ∈ t.set i (⟨x.f0, sB, x.f2, x.f3, x.f4, x.f5⟩ : S27), y.f3.length ≤ 4611686018427387904 from fun y hy => by
      rcases List.mem_or_eq_of_mem_set hy with h | h
      · exact HK1.out y h
      · rw [h]; exact HXL.out)
    have HS12 := Go.Lib.hid (same_two HR.out HB4.out HU2.out HTL.out HK1.out HK2.out (by rw [(eqL_set t i HIT.out (⟨x.f0, sB, x.f2, x.f3, x.f4, x.f5⟩ : S27)).1, HEQ.out.1]) (by rw [(eqL_set t i HIT.out (⟨x.f0, sB, x.f2, x.f3, x.f4, x.f5⟩ : S27)).2, HEQ.out.2]) List.length_set c0 c)
    go_wp2_with fail
    refine HS12.out.1.mono ?_
    rintro e w5 ⟨rfl, hb5⟩
    have HS3 := Go.Lib.hid (HS12.out.2 w5 hb5)
    have HB5 := Go.Lib.hid (below_step HB4.out hb5)
    clear hb5 HS12
    go_wp2_with fail
    refine HS3.out.mono ?_
    rintro e w6 ⟨rfl, hb6⟩
    have HB6 := Go.Lib.hid (below_step HB5.out hb6)
    have HC6 := Go.Lib.hid (clone_calls t ad c0 w6 (Kd.C_below HR.out HB6.out) HN.out HT4.out)
    clear hb6 HS3
    go_wp2_with fail
    refine HC6.out.mono ?_
    rintro e w7 ⟨g7, c7, rfl, -, hU7⟩
    have HB7 := Go.Lib.hid (below_step HB6.out hU7.below)
    have HS7 := Go.Lib.hid (same_calls t t (some ad) (some ⟨g7, 0, none⟩) c0 c7 w7 (Kd.C_below HR.out HB7.out) hU7.C HTL.out HK1.out)
    rw [eqL_refl] at HS7
    clear hU7 HC6
    go_wp2_with fail
    refine HS7.out.mono ?_
    rintro e w8 ⟨rfl, hb8⟩
    have HB8 := Go.Lib.hid (below_step HB7.out hb8)
    clear hb8 HS7
    go_wp2_with fail
    go_ret
    exact ⟨rfl, HB8.out⟩
  by_cases hq2 : q = 2
  · obtain rfl := hq2
    have HEQ := Go.Lib.hid (show eqN (t[i]'HIT.out) (⟨x.f0, x.f1, wrap64 (x.f2 + (1 + (text.size : Int))), x.f3, x.f4, x.f5⟩ : S27) = false ∧ eqN (⟨x.f0, x.f1, wrap64 (x.f2 + (1 + (text.size : Int))), x.f3, x.f4, x.f5⟩ : S27) (t[i]'HIT.out) = false by
      rw [HX.out]
      have h : ¬ wrap64 (x.f2 + (1 + (text.size : Int))) = x.f2 := wrap_ne x.f2 (1 + (text.size : Int)) (by omega) (by omega)
      unfold eqN
      exact ⟨by rw [decide_eq_false (p := x.f2 = wrap64 (x.f2 + (1 + (text.size : Int)))) (fun e => h e.symm)]; simp, by rw [decide_eq_false (p := wrap64 (x.f2 + (1 + (text.size : Int))) = x.f2) h]; simp⟩)
    have HU2 := Go.Lib.hid (show UR w2 (w3.setCell ⟨g, i * 6 + 2, none⟩ (.int .i64 (wrap64 (x.f2 + (1 + (text.size : Int)))))) g (t.set i (⟨x.f0, x.f1, wrap64 (x.f2 + (1 + (text.size : Int))), x.f3, x.f4, x.f5⟩ : S27)) from ur2 HU.out i HIT.out HX.out _)
    have HB4 := Go.Lib.hid (show Below w.heap.size w (w3.setCell ⟨g, i * 6 + 2, none⟩ (.int .i64 (wrap64 (x.f2 + (1 + (text.size : Int)))))) from below_weaken HB2.out HB2.out.size HU2.out.below)
    have HK2 := Go.Lib.hid (show ∀ y ∈ t.set i (⟨x.f0, x.f1, wrap64 (x.f2 + (1 + (text.size : Int))), x.f3, x.f4, x.f5⟩ : S27), y.f3.length ≤ 4611686018427387904 from fun y hy => by
      rcases List.mem_or_eq_of_mem_set hy with h | h
      · exact HK1.out y h
      · rw [h]; exact HXL.out)
    have HS12 := Go.Lib.hid (same_two HR.out HB4.out HU2.out HTL.out HK1.out HK2.out (by rw [(eqL_set t i HIT.out (⟨x.f0, x.f1, wrap64 (x.f2 + (1 + (text.size : Int))), x.f3, x.f4, x.f5⟩ : S27)).1, HEQ.out.1]) (by rw [(eqL_set t i HIT.out (⟨x.f0, x.f1, wrap64 (x.f2 + (1 + (text.size : Int))), x.f3, x.f4, x.f5⟩ : S27)).2, HEQ.out.2]) List.length_set c0 c)
    go_wp2_with fail
    refine HS12.out.1.mono ?_
    rintro e w5 ⟨rfl, hb5⟩
    have HS3 := Go.Lib.hid (HS12.out.2 w5 hb5)
    have HB5 := Go.Lib.hid (below_step HB4.out hb5)
    clear hb5 HS12
    go_wp2_with fail
    refine HS3.out.mono ?_
    rintro e w6 ⟨rfl, hb6⟩
    have HB6 := Go.Lib.hid (below_step HB5.out hb6)
    have HC6 := Go.Lib.hid (clone_calls t ad c0 w6 (Kd.C_below HR.out HB6.out) HN.out HT4.out)
    clear hb6 HS3
    go_wp2_with fail
    refine HC6.out.mono ?_
    rintro e w7 ⟨g7, c7, rfl, -, hU7⟩
    have HB7 := Go.Lib.hid (below_step HB6.out hU7.below)
    have HS7 := Go.Lib.hid (same_calls t t (some ad) (some ⟨g7, 0, none⟩) c0 c7 w7 (Kd.C_below HR.out HB7.out) hU7.C HTL.out HK1.out)
    rw [eqL_refl] at HS7
    clear hU7 HC6
    go_wp2_with fail
    refine HS7.out.mono ?_
    rintro e w8 ⟨rfl, hb8⟩
    have HB8 := Go.Lib.hid (below_step HB7.out hb8)
    clear hb8 HS7
    go_wp2_with fail
    go_ret
    exact ⟨rfl, HB8.out⟩
  by_cases hq3 : q = 3
  · obtain rfl := hq3
    by_cases hk0 : x.f3.length = 0
    · have e3 : ((x.f3.length : Int) == 0) = true := beq_iff_eq.2 (by omega)
      have e4 : (x.f3.length == 0) = true := beq_iff_eq.2 hk0
      clear hk0
      go_wp2_with fail
      go_ret
      exact ⟨rfl, HB3.out⟩
    have e3 : ((x.f3.length : Int) == 0) = false := beq_eq_false_iff_ne.2 (by omega)
    have e4 : (x.f3.length == 0) = false := beq_eq_false_iff_ne.2 hk0
    obtain ⟨i3, hi3⟩ : ∃ i, Try.prog.info? 3 = some i := Option.isSome_iff_exists.1 (by kernel_rfl)
    have h31 : (1 : Int) ≤ (x.f3.length : Int) := by omega
    have h39 : (x.f3.length : Int) ≤ 4611686018427387904 := by have := HXL.out; omega
    have hcut3 := cut_to (P := Try.prog) 25 3 .i64 Try.underlying25 hi3 A3 x.f3.length c3 ((x.f3.length : Int) - 1) (by omega) (by omega) L3.out
    rw [show ((x.f3.length : Int) - 1).toNat = x.f3.length - 1 by omega] at hcut3
    clear hk0 hi3
    go_wp2_with fail
    go_region
    have HXL3 := Go.Lib.hid (show (x.f3.take (x.f3.length - 1)).length ≤ 4611686018427387904 by rw [List.length_take]; have := HXL.out; omega)
    have HEQ := Go.Lib.hid (show eqN (t[i]'HIT.out) (⟨x.f0, x.f1, x.f2, x.f3.take (x.f3.length - 1), x.f4, x.f5⟩ : S27) = false ∧ eqN (⟨x.f0, x.f1, x.f2, x.f3.take (x.f3.length - 1), x.f4, x.f5⟩ : S27) (t[i]'HIT.out) = false by
      rw [HX.out]
      have h : ¬ x.f3.take (x.f3.length - 1) = x.f3 := fun e => by have h := congrArg List.length e; rw [List.length_take] at h; omega
      unfold eqN
      exact ⟨by rw [decide_eq_false (p := x.f3 = x.f3.take (x.f3.length - 1)) (fun e => h e.symm)]; simp, by rw [decide_eq_false (p := x.f3.take (x.f3.length - 1) = x.f3) h]; simp⟩)
    have HU2 := Go.Lib.hid (show UR w2 ((w3.setCell ⟨g, i * 6 + 3, none⟩ (.slice A3 (x.f3.length - 1) c3)).drew) g (t.set i (⟨x.f0, x.f1, x.f2, x.f3.take (x.f3.length - 1), x.f4, x.f5⟩ : S27)) from ur3 HU.out i HIT.out HX.out L3.out G3.out)
    have HB4 := Go.Lib.hid (show Below w.heap.size w ((w3.setCell ⟨g, i * 6 + 3, none⟩ (.slice A3 (x.f3.length - 1) c3)).drew) from below_weaken HB2.out HB2.out.size HU2.out.below)
    have HK2 := Go.Lib.hid (show ∀ y ∈ t.set i (⟨x.f0, x.f1, x.f2, x.f3.take (x.f3.length - 1), x.f4, x.f5⟩ : S27), y.f3.length ≤ 4611686018427387904 from fun y hy => by
      rcases List.mem_or_eq_of_mem_set hy with h | h
      · exact HK1.out y h
      · rw [h]; exact HXL3.out)
    have HS12 := Go.Lib.hid (same_two HR.out HB4.out HU2.out HTL.out HK1.out HK2.out (by rw [(eqL_set t i HIT.out (⟨x.f0, x.f1, x.f2, x.f3.take (x.f3.length - 1), x.f4, x.f5⟩ : S27)).1, HEQ.out.1]) (by rw [(eqL_set t i HIT.out (⟨x.f0, x.f1, x.f2, x.f3.take (x.f3.length - 1), x.f4, x.f5⟩ : S27)).2, HEQ.out.2]) List.length_set c0 c)
    go_wp2_with fail
    refine HS12.out.1.mono ?_
    rintro e w5 ⟨rfl, hb5⟩
    have HS3 := Go.Lib.hid (HS12.out.2 w5 hb5)
    have HB5 := Go.Lib.hid (below_step HB4.out hb5)
    clear hb5 HS12
    go_wp2_with fail
    refine HS3.out.mono ?_
    rintro e w6 ⟨rfl, hb6⟩
    have HB6 := Go.Lib.hid (below_step HB5.out hb6)
    have HC6 := Go.Lib.hid (clone_calls t ad c0 w6 (Kd.C_below HR.out HB6.out) HN.out HT4.out)
    clear hb6 HS3
    go_wp2_with fail
    refine HC6.out.mono ?_
    rintro e w7 ⟨g7, c7, rfl, -, hU7⟩
    have HB7 := Go.Lib.hid (below_step HB6.out hU7.below)
    have HS7 := Go.Lib.hid (same_calls t t (some ad) (some ⟨g7, 0, none⟩) c0 c7 w7 (Kd.C_below HR.out HB7.out) hU7.C HTL.out HK1.out)
    rw [eqL_refl] at HS7
    clear hU7 HC6
    go_wp2_with fail
    refine HS7.out.mono ?_
    rintro e w8 ⟨rfl, hb8⟩
    have HB8 := Go.Lib.hid (below_step HB7.out hb8)
    clear hb8 HS7
    go_wp2_with fail
    go_ret
    exact ⟨rfl, HB8.out⟩
  have hq4 : q = 4 := by have := HQ.out; omega
  obtain rfl := hq4
  go_wp2_with fail
  go_region
  have HEQ := Go.Lib.hid (show eqN (t[i]'HIT.out) (⟨x.f0, x.f1, x.f2, x.f3, wrap64 (x.f4 + (text.size : Int)), wrap64 (x.f5 + 1)⟩ : S27) = true ∧ eqN (⟨x.f0, x.f1, x.f2, x.f3, wrap64 (x.f4 + (text.size : Int)), wrap64 (x.f5 + 1)⟩ : S27) (t[i]'HIT.out) = true by
    rw [HX.out]
    simp [eqN])
  have HU2 := Go.Lib.hid (show UR w2 (((w3.setCell ⟨g, i * 6 + 4, none⟩ (.int .i64 (wrap64 (x.f4 + (text.size : Int))))).setCell ⟨g, i * 6 + 5, none⟩ (.int .i64 (wrap64 (x.f5 + 1)))).drew) g (t.set i (⟨x.f0, x.f1, x.f2, x.f3, wrap64 (x.f4 + (text.size : Int)), wrap64 (x.f5 + 1)⟩ : S27)) from ur45 HU.out i HIT.out HX.out _ _)
  have HB4 := Go.Lib.hid (show Below w.heap.size w (((w3.setCell ⟨g, i * 6 + 4, none⟩ (.int .i64 (wrap64 (x.f4 + (text.size : Int))))).setCell ⟨g, i * 6 + 5, none⟩ (.int .i64 (wrap64 (x.f5 + 1)))).drew) from below_weaken HB2.out HB2.out.size HU2.out.below)
  have HK2 := Go.Lib.hid (show ∀ y ∈ t.set i (⟨x.f0, x.f1, x.f2, x.f3, wrap64 (x.f4 + (text.size : Int)), wrap64 (x.f5 + 1)⟩ : S27), y.f3.length ≤ 4611686018427387904 from fun y hy => by
    rcases List.mem_or_eq_of_mem_set hy with h | h
    · exact HK1.out y h
    · rw [h]; exact HXL.out)
  have HS12 := Go.Lib.hid (same_two HR.out HB4.out HU2.out HTL.out HK1.out HK2.out (by rw [(eqL_set t i HIT.out (⟨x.f0, x.f1, x.f2, x.f3, wrap64 (x.f4 + (text.size : Int)), wrap64 (x.f5 + 1)⟩ : S27)).1, HEQ.out.1]) (by rw [(eqL_set t i HIT.out (⟨x.f0, x.f1, x.f2, x.f3, wrap64 (x.f4 + (text.size : Int)), wrap64 (x.f5 + 1)⟩ : S27)).2, HEQ.out.2]) List.length_set c0 c)
  go_wp2_with fail
  refine HS12.out.1.mono ?_
  rintro e w5 ⟨rfl, hb5⟩
  have HS3 := Go.Lib.hid (HS12.out.2 w5 hb5)
  have HB5 := Go.Lib.hid (below_step HB4.out hb5)
  clear hb5 HS12
  go_wp2_with fail
  refine HS3.out.mono ?_
  rintro e w6 ⟨rfl, hb6⟩
  have HB6 := Go.Lib.hid (below_step HB5.out hb6)
  have HC6 := Go.Lib.hid (clone_calls t ad c0 w6 (Kd.C_below HR.out HB6.out) HN.out HT4.out)
  clear hb6 HS3
  go_wp2_with fail
  refine HC6.out.mono ?_
  rintro e w7 ⟨g7, c7, rfl, -, hU7⟩
  have HB7 := Go.Lib.hid (below_step HB6.out hU7.below)
  have HS7 := Go.Lib.hid (same_calls t t (some ad) (some ⟨g7, 0, none⟩) c0 c7 w7 (Kd.C_below HR.out HB7.out) hU7.C HTL.out HK1.out)
  rw [eqL_refl] at HS7
  clear hU7 HC6
  go_wp2_with fail
  refine HS7.out.mono ?_
  rintro e w8 ⟨rfl, hb8⟩
  have HB8 := Go.Lib.hid (below_step HB7.out hb8)
  clear hb8 HS7
  go_wp2_with fail
  go_ret
  exact ⟨rfl, HB8.out⟩
end Go.Proofs.Ytemdfhaceddmpaa.Tr
