import Derived.Test.YtjhinklijopobaaDoorHa
import Derived.Deep.RegionLawGrows
namespace Go.Proofs.YtjhinklijopobaaDoor.Co
open Go.RowKit Go.Proofs.YtjhinklijopobaaDoor.PCoreChecks Go.Proofs.YtjhinklijopobaaDoorW.PrintWords Go.Proofs.YtjhinklijopobaaDoorW.PrintLast Go.Proofs.YtjhinklijopobaaDoorW.PrintMore
set_option linter.unusedVariables false
set_option linter.unusedSimpArgs false

/-! ### The document's FreeAt -/
/-- The row so far. -/
structure Fq (t : List S28) (P : List Int) (n i : Nat) (w2 W : World) (l : List Int) (A : Option Addr) (c : Nat) : Prop where
  bl : Below w2.heap.size w2 W
  lc : l.length ≤ c
  nl : A = none → l.length = 0 ∧ c = 0
  na : ∀ ad, A = some ad → ∃ g, ad = ⟨g, 0, none⟩
  g : Kd.C (Kd.int .i64) W A l.length l
  ln : l.length ≤ i
  so : l.Pairwise (· < ·)
  me : ∀ z, z ∈ l ↔ FrA t P n i z
theorem Fq.lift {t : List S28} {P : List Int} {n i : Nat} {w2 W W' : World} {l : List Int} {A : Option Addr} {c : Nat} (h : Fq t P n i w2 W l A c) (hb : Below W.heap.size W W') : Fq t P n i w2 W' l A c := ⟨below_step h.bl hb, h.lc, h.nl, h.na, Kd.C_below h.g hb, h.ln, h.so, h.me⟩
theorem Fq.skip {t : List S28} {P : List Int} {n i : Nat} {w2 W : World} {l : List Int} {A : Option Addr} {c : Nat} (h : Fq t P n i w2 W l A c) (hs : ∀ z, Fro t P n i z → z ∈ l) : Fq t P n (i + 1) w2 W l A c :=
  ⟨h.bl, h.lc, h.nl, h.na, h.g, Nat.le_succ_of_le h.ln, h.so, fun z => by rw [FrA.succ, ← h.me z]; exact ⟨Or.inl, fun h2 => h2.elim id (hs z)⟩⟩
theorem Fq.put {t : List S28} {P : List Int} {n i : Nat} {w2 W W' : World} {l : List Int} {A A' : Option Addr} {c c' : Nat} (h : Fq t P n i w2 W l A c) {x : Int} {k : Nat} (hk : k ≤ l.length) (hlt : ∀ y ∈ l.take k, y < x) (hge : ∀ h : k < l.length, ¬ l[k]'h < x) (hx : x ∉ l) (hF : ∀ z, Fro t P n i z ↔ z = x)
    (hb : Below W.heap.size W W') (hl : (l.take k ++ x :: l.drop k).length ≤ c') (hn : ∃ g, A' = some ⟨g, 0, none⟩) (hg : Kd.C (Kd.int .i64) W' A' (l.take k ++ x :: l.drop k).length (l.take k ++ x :: l.drop k)) : Fq t P n (i + 1) w2 W' (l.take k ++ x :: l.drop k) A' c' := by
  obtain ⟨h1, h2⟩ := sorted_put h.so hk hlt hge hx
  obtain ⟨g, rfl⟩ := hn
  exact ⟨below_step h.bl hb, hl, (fun e => by cases e), (fun ad e => by cases e; exact ⟨g, rfl⟩), hg, by rw [List.length_append, List.length_cons, List.length_take, List.length_drop]; have := h.ln; omega, h1, fun z => by rw [h2 z, FrA.succ, h.me z, hF z]⟩
def FaP (t : List S28) (n : Nat) (w : World) (e : Ending) (w' : World) : Prop := ∃ (l : List Int) (A : Option Addr) (c : Nat), e = .returned (.slice A l.length c) ∧ l.length ≤ c ∧ (∀ ad, A = some ad → ∃ g, ad = ⟨g, 0, none⟩) ∧ l.Pairwise (· < ·) ∧ (∀ z, z ∈ l ↔ Fv t n z) ∧ Kd.C (Kd.int .i64) w' A l.length l ∧ Below w.heap.size w w'
theorem FaP.mk {t : List S28} {P : List Int} (hP : Par t P) {n : Nat} (hn : n < t.length) {w w2 W : World} {l : List Int} {A : Option Addr} {c : Nat} (h : Fq t P n t.length w2 W l A c) (hb : Below w.heap.size w w2) : FaP t n w (.returned (.slice A l.length c)) W :=
  ⟨l, A, c, rfl, h.lc, h.na, h.so, fun z => (h.me z).trans (FrA_iff hP hn z), h.g, below_step hb h.bl⟩

theorem info3p : ∃ i, Tryd.prog.info? 3 = some i ∧ i.zero = some (.int .i64 0) ∧ i.size = 1 ∧ i.bytes = 8 := by
  obtain ⟨i0, hi, hzz⟩ := Option.map_eq_some_iff.1 info3
  simp only [Prod.mk.injEq] at hzz
  exact ⟨i0, hi, hzz.1, hzz.2.1, hzz.2.2⟩
theorem ints_cells {W : World} {ad : Addr} {n : Nat} {l : List Int} (h : Kd.C (Kd.int .i64) W (some ad) n l) : ∀ j u, (encs (Value.int .i64) l)[j]? = some u → W.cell? (ad.add j) = some u := by
  intro j u hj
  have hl : j < l.length := by have := (List.getElem?_eq_some_iff.1 hj).1; rwa [encs_length] at this
  obtain ⟨ad', e, h2⟩ := Kd.at_int h (j : Int) (by omega) (by have := h.1; omega)
  cases e
  rw [rd_nat l j hl, Int.toNat_natCast] at h2
  rw [h2]
  unfold encs at hj
  rw [List.getElem?_map, List.getElem?_eq_getElem hl] at hj
  exact hj
theorem one_own (W : World) (z : Int) (base : Nat) (hb : base ≤ W.heap.size) : Kd.R (Kd.int .i64) 3 (W.alloc (.cells #[.int .i64 z] 3)) base (fun _ => True) (.slice (some ⟨W.heap.size, 0, none⟩) 1 1) [z] := by
  have h2 := World.ownsRow_lit (base := base) (e := 3) (size := 1) W #[.int .i64 z] 1 hb (by decide) rfl
  exact Kd.R_of_own h2 (fun _ _ => trivial)
theorem ints_one (l : List Int) : ∀ u ∈ encs (Value.int .i64) l, u.oneCell' = true := by
  intro u hu
  unfold encs at hu
  obtain ⟨z, _, rfl⟩ := List.mem_map.1 hu
  rfl
theorem put_row {w9 w' : World} {v' : Value} {k : Nat} {l : List Int} {x : Int} (h : w'.ownsRow w9.heap.size 3 1 v' (k + (1 + (l.length - k))) (encs (Value.int .i64) (l.take k) ++ encs (Value.int .i64) ([x] ++ l.drop k))) (hk : k ≤ l.length) :
    ∃ (L : List Int) (g c' : Nat), L = l.take k ++ x :: l.drop k ∧ v' = .slice (some ⟨g, 0, none⟩) L.length c' ∧ L.length ≤ c' ∧ Kd.C (Kd.int .i64) w' (some ⟨g, 0, none⟩) L.length L := by
  have hlen : (l.take k ++ x :: l.drop k).length = k + (1 + (l.length - k)) := by rw [List.length_append, List.length_cons, List.length_take, List.length_drop]; omega
  have he : encs (Value.int .i64) (l.take k) ++ encs (Value.int .i64) ([x] ++ l.drop k) = encs (Value.int .i64) (l.take k ++ x :: l.drop k) := by unfold encs; rw [← List.map_append]; rfl
  rw [he, ← hlen] at h
  obtain ⟨g, cap, rfl, _, _, _⟩ := Kd.R_form (Kd.R_of_own h (fun _ _ => trivial) : Kd.R (Kd.int .i64) 3 w' w9.heap.size (fun _ => True) v' (l.take k ++ x :: l.drop k)) (by rw [hlen]; omega)
  obtain ⟨_, h2, h3⟩ := Kd.R_reads' (Kd.R_of_own h (fun _ _ => trivial) : Kd.R (Kd.int .i64) 3 w' w9.heap.size (fun _ => True) _ (l.take k ++ x :: l.drop k))
  exact ⟨_, g, cap, rfl, rfl, h2, h3⟩
set_option maxHeartbeats 16000000 in
set_option maxRecDepth 100000 in
theorem freeAt_calls (t : List S28) (htr : treeB t = true) (hn : t.length ≤ 4096) (hok : ∀ x ∈ t, Ok x) (n : Nat) (hnt : n < t.length) (A0 : Option Addr) (c0 : Nat) (w : World) (hr : Kd.C k28 w A0 t.length t) :
    Calls Tryd.prog 22 #[.slice A0 t.length c0, .int .i64 (n : Int)] w (FaP t n w) := by
  have HPC := Go.Lib.hid (parentsOf_calls t A0 c0 w hr hn)
  have HR := Go.Lib.hid hr
  have HTR := Go.Lib.hid htr
  have HN := Go.Lib.hid hn
  have HOK := Go.Lib.hid hok
  have HNT := Go.Lib.hid hnt
  have ht9 : (t.length : Int) ≤ 4096 := by omega
  clear hr htr hn hok hnt
  go_enter Tryd.func22, Tryd.ntmps22
  go_wp2_with fail
  refine HPC.out.mono ?_
  rintro e w1 ⟨hb1, hbad | ⟨P, g0, hP, rfl, hA⟩⟩
  · rw [HTR.out] at hbad; exact absurd hbad.1 (by decide)
  have HB1 := Go.Lib.hid hb1
  have HP := Go.Lib.hid hP
  have HA1 := Go.Lib.hid hA
  clear HPC hb1 hP hA
  have HBC := Go.Lib.hid (rbelow_calls t HTR.out HN.out n HNT.out A0 c0 w1 (Kd.C_below HR.out HB1.out))
  go_wp2_with fail
  refine HBC.out.mono ?_
  rintro e w2 ⟨g1, rfl, hBA, hb2⟩
  have HB2 := Go.Lib.hid (below_step HB1.out hb2)
  have HA2 := Go.Lib.hid (show IA w2 g0 P from HA1.out.below hb2)
  have HBA := Go.Lib.hid hBA
  clear HBC hb2 hBA HB1 HA1
  go_wp2_with fail
  go_loopg [8, 23] t.length (fun g_ v8 v23 w' => ∃ (i : Nat) (l : List Int) (A : Option Addr) (c : Nat), Hid (i + g_ = t.length) ∧ v23 = .int .i64 i ∧ v8 = .slice A l.length c ∧ Hid (Fq t P n i w2 w' l A c))
  case atStart => exact ⟨0, [], none, 0, Go.Lib.hid (by omega), rfl, rfl, Go.Lib.hid ⟨Below.refl _ _, Nat.le_refl _, fun _ => ⟨rfl, rfl⟩, (fun _ h => by cases h), Kd.C_nil _ _, Nat.le_refl _, List.Pairwise.nil, fun z => ⟨fun h => absurd h List.not_mem_nil, fun h => absurd h FrA.zero⟩⟩⟩
  case round =>
    obtain ⟨i, l, A, c, hi, rfl, rfl, hq⟩ := hrel
    obtain ⟨wo, hwo⟩ : ∃ wo : World, wo = wr := ⟨_, rfl⟩
    subst hwo
    obtain ⟨ga, hga⟩ : ∃ ga : Nat, ga = gk := ⟨_, rfl⟩
    subst hga
    by_cases hlt : i < t.length
    · have hlt' : (i : Int) < (t.length : Int) := by omega
      have hi0 : (0 : Int) ≤ (i : Int) := by omega
      have HI := Go.Lib.hid hlt
      have HBW := Go.Lib.hid (below_step HB2.out hq.out.bl)
      obtain ⟨ad, A2, c2, A3, c3, A4, c4, e_, p0, p1, p2, p3, p4, l2, g2, l3, g3, l4, g4⟩ := at_T28 HR.out (i : Int) hi0 hlt'
      cases e_
      have HBI := Go.Lib.hid (fun (W : World) (hb : Below wo.heap.size wo W) => binder_calls t P HP.out HN.out (fun x hx => (HOK.out x hx).kids) i hlt (some ad) c0 g0 W (Kd.C_below (Kd.C_below HR.out HBW.out) hb) ((HA2.out.below hq.out.bl).below hb).lt ((HA2.out.below hq.out.bl).below hb))
      have HBA2 := Go.Lib.hid (HBA.out.below hq.out.bl)
      rw [rdT_nat t i hlt] at p0 p1 p2 p3 p4 l2 g2 l3 g3 l4 g4 HBI
      rw [Int.toNat_natCast] at p0 p1 p2 p3 p4
      replace p0 := pw_cell_below HBW.out p0
      replace p1 := pw_cell_below HBW.out p1
      replace p2 := pw_cell_below HBW.out p2
      replace p3 := pw_cell_below HBW.out p3
      replace p4 := pw_cell_below HBW.out p4
      have HID := Go.Lib.hid (fun h0 => (HOK.out _ (List.getElem_mem hlt)).var h0)
      have HFR := Go.Lib.hid (show ∀ z, Fro t P n i z ↔ (Bl t n i ∧ (t[i]'hlt).f0 = 0 ∧ (t[i]'hlt).f1 = z ∧ Out1 t P n z i) from fun z => ⟨fun ⟨_, h⟩ => h, fun h => ⟨hlt, h⟩⟩)
      have HLL := Go.Lib.hid (show l.length ≤ 4096 by have := hq.out.ln; have := HN.out; omega)
      generalize t[i]'hlt = x at p0 p1 p2 p3 p4 l2 g2 l3 g3 l4 g4 HBI HID HFR
      have HX1 := Go.Lib.hid (Bx.made wo x A2 A3 A4 c2 c3 c4)
      have HBX := Go.Lib.hid (below_alloc (Below.refl wo.heap.size wo) (.cells #[.int .i64 x.f0, .int .i64 x.f1, .slice A2 x.f2.length c2, .slice A3 x.f3.length c3, .slice A4 x.f4.length c4] 28))
      obtain ⟨b1, hb1⟩ := marks_at (Bl t n) i
      have m1 := (HBA2.out.below HBX.out).cell i hlt hb1
      have HB1 := Go.Lib.hid hb1
      clear hlt g2 g3 g4 l2 l3 l4 hb1
      cases b1 with
      | false =>
        have HSK := Go.Lib.hid ((hq.out.lift HBX.out).skip (fun z h => by have := HB1.out.2 ((HFR.out z).1 h).1; cases this))
        clear HB1
        go_wp2_with fail
        go_roundg (ga - 1)
        case measure => have := hi.out; have := HI.out; omega
        case rel => exact ⟨i + 1, l, A, c, Go.Lib.hid (by have := hi.out; have := HI.out; omega), by go_num, rfl, HSK⟩
      | true =>
        have HBL := Go.Lib.hid (HB1.out.1 rfl)
        clear HB1
        by_cases h0 : x.f0 = 0
        · have e0 : (x.f0 == 0) = true := beq_iff_eq.2 h0
          have e1 : (x.f0 != 0) = false := by rw [bne, e0]; rfl
          have HZ := Go.Lib.hid (HID.out h0)
          have HFX := Go.Lib.hid (show ∀ z, Fro t P n i z ↔ (x.f1 = z ∧ Out1 t P n z i) from fun z => (HFR.out z).trans ⟨fun h => h.2.2, fun h => ⟨HBL.out, h0, h⟩⟩)
          have HBQ := Go.Lib.hid (HBI.out _ HBX.out)
          clear h0 HFR HBL HID HBI
          go_wp2_with fail
          refine HBQ.out.mono ?_
          rintro e w4 ⟨r, rfl, hbd, hb4⟩
          have HB4 := Go.Lib.hid (below_step HBX.out hb4)
          have HQ4 := Go.Lib.hid (hq.out.lift HB4.out)
          have HX4 := Go.Lib.hid (HX1.out.below hb4)
          have HBD := Go.Lib.hid hbd
          have HRG := Go.Lib.hid (hbd.range HP.out)
          have HO1 := Go.Lib.hid (Out1_iff (n := n) hbd)
          obtain ⟨-, y1, -, -, -⟩ := HX4.out.cells
          have HIC := Go.Lib.hid (in_calls l A c x.f1 w4 HQ4.out.g)
          have hcase : (∃ b : Nat, r = (b : Int) ∧ b < t.length ∧ Bl t n b) ∨ (r = -1) ∨ (∃ b : Nat, r = (b : Int) ∧ b < t.length ∧ ¬ Bl t n b) := by
            rcases HRG.out with h | ⟨b, h1, h2⟩
            · exact Or.inr (Or.inl h)
            · by_cases h3 : Bl t n b
              · exact Or.inl ⟨b, h1, h2, h3⟩
              · exact Or.inr (Or.inr ⟨b, h1, h2, h3⟩)
          clear HBQ hbd hb4 HX1 p0 p1 p2 p3 p4 m1 HBD HRG
          rcases hcase with ⟨b, rfl, hbl, hbb⟩ | rfl | ⟨b, rfl, hbl, hbb⟩
          · have hb0 : (0 : Int) ≤ (b : Int) := by omega
            have hbt : (b : Int) < (t.length : Int) := by omega
            have m1 := (HBA2.out.below HB4.out).cell b hbl (b := true) (by simp [hbb])
            have HSK := Go.Lib.hid (HQ4.out.skip (fun z h => absurd hbb ((HFX.out z).1 h |>.2 |> fun h => (by
              obtain ⟨e1, h2⟩ := (HFX.out z).1 ‹Fro t P n i z›
              rw [← e1] at h2
              exact HO1.out.1 h2 b rfl))))
            clear hbl hbb
            go_wp2_with fail
            go_roundg (ga - 1)
            case measure => have := hi.out; have := HI.out; omega
            case rel => exact ⟨i + 1, l, A, c, Go.Lib.hid (by have := hi.out; have := HI.out; omega), by go_num, rfl, HSK⟩
          · have HOT := Go.Lib.hid (HO1.out.2 (fun b h => by omega))
            go_wp2_with fail
            refine HIC.out.mono ?_
            rintro e w5 ⟨rfl, rfl⟩
            clear HIC
            by_cases hin : x.f1 ∈ l
            · have hdi : decide (x.f1 ∈ l) = true := decide_eq_true hin
              have HSK := Go.Lib.hid (HQ4.out.skip (fun z h => by rw [← ((HFX.out z).1 h).1]; exact hin))
              rw [hdi]
              clear hin hdi
              go_wp2_with fail
              go_roundg (ga - 1)
              case measure => have := hi.out; have := HI.out; omega
              case rel => exact ⟨i + 1, l, A, c, Go.Lib.hid (by have := hi.out; have := HI.out; omega), by go_num, rfl, HSK⟩
            · have hdi : decide (x.f1 ∈ l) = false := decide_eq_false hin
              have HIN := Go.Lib.hid hin
              rw [hdi]
              have hl9 : (l.length : Int) ≤ 4096 := by have := HLL.out; omega
              clear hin hdi
              go_wp2_with fail
              go_loopg [12] l.length (fun g_ v12 w' => ∃ k : Nat, Hid (k + g_ = l.length) ∧ v12 = .int .i64 k ∧ Hid (∀ y ∈ l.take k, y < x.f1) ∧ Hid (Below w5.heap.size w5 w'))
              case atStart => exact ⟨0, Go.Lib.hid (by omega), rfl, Go.Lib.hid (fun y hy => by simp at hy), Go.Lib.hid (Below.refl _ _)⟩
              case round =>
                obtain ⟨k, hk, rfl, hlo, hbk⟩ := hrel
                obtain ⟨wi, hwi⟩ : ∃ wi : World, wi = wr := ⟨_, rfl⟩
                subst hwi
                have HQ5 := Go.Lib.hid (HQ4.out.lift hbk.out)
                have HX5 := Go.Lib.hid (HX4.out.below hbk.out)
                obtain ⟨-, z1, -, -, -⟩ := HX5.out.cells
                by_cases hlt : k < l.length
                · have hltk : (k : Int) < (l.length : Int) := by omega
                  have hk0 : (0 : Int) ≤ (k : Int) := by omega
                  have HK := Go.Lib.hid hlt
                  obtain ⟨ad5, e_, q0⟩ := Kd.at_int HQ5.out.g (k : Int) hk0 hltk
                  cases e_
                  rw [rd_nat l k hlt, Int.toNat_natCast] at q0
                  have HTK := Go.Lib.hid (List.take_succ_eq_append_getElem hlt)
                  have HGE := Go.Lib.hid (show ∀ y, l[k]'hlt = y → ¬ y < x.f1 → ∀ h : k < l.length, ¬ l[k]'h < x.f1 from fun y h1 h2 _ => by rw [h1]; exact h2)
                  generalize hy : l[k]'hlt = y at q0 HTK HGE
                  replace HGE := Go.Lib.hid (HGE.out y rfl)
                  clear hlt hy
                  by_cases hyx : y < x.f1
                  · have d1 : decide (y < x.f1) = true := decide_eq_true hyx
                    have HYX := Go.Lib.hid hyx
                    clear hyx
                    go_wp2_with fail
                    go_quiet (fail)
                    go_wp2_with fail
                    go_roundg (gk - 1)
                    case measure => have := hk.out; have := HK.out; omega
                    case rel => exact ⟨k + 1, Go.Lib.hid (by have := hk.out; have := HK.out; omega), by go_num, Go.Lib.hid (fun y hy => by
                      rw [HTK.out] at hy
                      rcases List.mem_append.1 hy with hy | hy
                      · exact hlo.out y hy
                      · rw [List.mem_singleton.1 hy]; exact HYX.out), Go.Lib.hid (below_dn hbk.out _)⟩
                  · have d1 : decide (y < x.f1) = false := decide_eq_false hyx
                    replace HGE := Go.Lib.hid (HGE.out hyx)
                    have HKL := Go.Lib.hid (Nat.le_of_lt HK.out)
                    clear hyx
                    go_wp2_with fail
                    go_quiet (fail)
                    go_wp2_with fail
                    obtain ⟨wz, hwz⟩ : ∃ wz : World, wz = wi.drewN nq := ⟨_, rfl⟩
                    rw [← hwz]
                    have hbz : Below wi.heap.size wi wz := by rw [hwz]; exact below_dn (Below.refl _ _) _
                    have HQ6 := Go.Lib.hid (HQ5.out.lift hbz)
                    obtain ⟨-, z2, -, -, -⟩ := (HX5.out.below hbz).cells
                    have hkc : (k : Int) ≤ (c : Int) := by have := HQ6.out.lc; have := HKL.out; omega
                    have hkl : (k : Int) ≤ (l.length : Int) := by have := HKL.out; omega
                    have HO6 := Go.Lib.hid (one_own wz.drew x.f1 wz.heap.size (Nat.le_refl _))
                    have HBA6 := Go.Lib.hid (show Below wz.heap.size wz (wz.drew.alloc (.cells #[.int .i64 x.f1] 3)) from below_alloc (below_drew (Below.refl _ _)) _)
                    have HCT := Go.Lib.hid (Kd.C_take HQ6.out.g HKL.out)
                    obtain ⟨i3, hi3, hz3, hs3, hb3⟩ := info3p
                    have HRD := Go.Lib.hid (show Kd.C (Kd.int .i64) (wz.drew.alloc (.cells #[.int .i64 x.f1] 3)) (if c = k then some ad5 else some (ad5.add k)) (l.length - k) (l.drop k) by
                      have h := Kd.C_drop (m := k) HQ6.out.g HKL.out HQ6.out.lc
                      rw [List.length_drop, show k * (Kd.int .i64).sz = k from Nat.mul_one k] at h
                      exact Kd.C_below h HBA6.out)
                    clear hwz hbz
                    go_region_law (first
                      | (refine Kd.R_append_rows_step (Kd.int .i64) (w0 := wz) wz.heap.size (by rfl) (.tmp 77) (.tmp 80) 25 3 (.int .i64 0) 8 rfl Tryd.underlying25 info3 rfl (by decide) (by decide) (.slice (some ⟨wz.heap.size, 0, none⟩) 1 1) [x.f1] (l.drop k) (if c = k then some ad5 else some (ad5.add k)) (l.length - k) (c - k) (fun _ => True) (fun _ => False) (by simp [Act.eval, Act.put]) (by simp [Act.eval, Act.put]) HO6.out HRD.out (fun _ _ h => h) (fun _ h => h.elim) (fun _ _ => trivial) HBA6.out (by simp) (by have := HLL.out; simp; omega) ?_; intro v9 w9 hr9 hb9 hg9 hat9; obtain ⟨g9, c9, rfl, -, -, -⟩ := Kd.R_form hr9 (by simp); have HR9 := Go.Lib.hid hr9; have HB9 := Go.Lib.hid hb9; clear hr9 hb9 hg9 hat9)
                      | (refine step_append_grows rfl (.tmp 74) (.tmp 81) 25 rfl 3 i3 (.int .i64 0) 1 8 Tryd.underlying25 hi3 hz3 hs3 hb3 rfl (by decide) (some ad5) k k (encs (Value.int .i64) (l.take k)) (by simp [Act.eval, Act.put]) (fun h => by cases h) (by rw [encs_length, List.length_take]; have := HKL.out; omega) (fun b hb => by cases hb; exact ints_cells (Kd.C_below HCT.out HB9.out)) ⟨g9, 0, none⟩ (1 + (l.length - k)) c9 (encs (Value.int .i64) ([x.f1] ++ l.drop k)) (by simp [Act.eval, Act.put, Nat.add_comm]) (by rw [encs_length]; simp; omega) (ints_cells (Kd.R_reads' HR9.out).2.2) (ints_one _) (by omega) (by have := HLL.out; unfold maxLen; omega) (by have := HLL.out; omega) ?_; intro v' w' hown hgrow; obtain ⟨L, g', c', hL, rfl, hl', hg'⟩ := put_row hown HKL.out; have HP9 := Go.Lib.hid (show Fq t P n (i + 1) w2 w' L (some ⟨g', 0, none⟩) c' from by subst hL; exact HQ6.out.put HKL.out hlo.out (fun h => by have := HGE.out h; omega) HIN.out (fun z => (HFX.out z).trans ⟨fun h => h.1.symm, fun h => by subst h; exact ⟨rfl, HOT.out⟩⟩) (HB9.out.grown hgrow HB9.out.size (fun k hk => by cases hk)) hl' ⟨g', rfl⟩ hg'); clear hown hgrow hl' hg' hL))
                    all_goals (go_wp2_with fail)
                    all_goals
                      go_roundg (ga - 1)
                      case measure => have := hi.out; have := HI.out; omega
                      case rel => exact ⟨i + 1, L, some ⟨g', 0, none⟩, c', Go.Lib.hid (by have := hi.out; have := HI.out; omega), by go_num, rfl, HP9⟩
                · have hd : decide ((k : Int) < (l.length : Int)) = false := decide_eq_false (by omega)
                  have hd2 : decide (k < l.length) = false := decide_eq_false hlt
                  have HGE := Go.Lib.hid (show ∀ h : k < l.length, ¬ l[k]'h < x.f1 from fun h => absurd h hlt)
                  have HKL := Go.Lib.hid (show k ≤ l.length by have := hk.out; omega)
                  clear hlt
                  go_wp2_with fail
                  go_quiet (fail)
                  go_wp2_with fail
                  cases A with
                  | none =>
                    obtain ⟨wz, hwz⟩ : ∃ wz : World, wz = wi.drewN nq := ⟨_, rfl⟩
                    rw [← hwz]
                    have hbz : Below wi.heap.size wi wz := by rw [hwz]; exact below_dn (Below.refl _ _) _
                    have HQ6 := Go.Lib.hid (HQ5.out.lift hbz)
                    obtain ⟨-, z2, -, -, -⟩ := (HX5.out.below hbz).cells
                    have hkc : (k : Int) ≤ (c : Int) := by have := HQ6.out.lc; have := HKL.out; omega
                    have hkl : (k : Int) ≤ (l.length : Int) := by have := HKL.out; omega
                    have HO6 := Go.Lib.hid (one_own wz.drew x.f1 wz.heap.size (Nat.le_refl _))
                    have HBA6 := Go.Lib.hid (show Below wz.heap.size wz (wz.drew.alloc (.cells #[.int .i64 x.f1] 3)) from below_alloc (below_drew (Below.refl _ _)) _)
                    have HCT := Go.Lib.hid (Kd.C_take HQ6.out.g HKL.out)
                    obtain ⟨i3, hi3, hz3, hs3, hb3⟩ := info3p
                    have HRD := Go.Lib.hid (show Kd.C (Kd.int .i64) (wz.drew.alloc (.cells #[.int .i64 x.f1] 3)) none (l.length - k) (l.drop k) by
                      obtain ⟨h1, h2⟩ := HQ6.out.nl rfl
                      rw [List.eq_nil_of_length_eq_zero h1, List.drop_nil]
                      rw [List.length_nil, Nat.zero_sub]
                      exact Kd.C_nil _ _)
                    have HK0 := Go.Lib.hid (show k = 0 by have := (HQ6.out.nl rfl).1; have := HKL.out; omega)
                    have HL0 := Go.Lib.hid (show l = [] from List.eq_nil_of_length_eq_zero (HQ6.out.nl rfl).1)
                    have HC0 := Go.Lib.hid (HQ6.out.nl rfl).2
                    clear hwz hbz
                    go_region_law (first
                      | (refine Kd.R_append_rows_step (Kd.int .i64) (w0 := wz) wz.heap.size (by rfl) (.tmp 77) (.tmp 80) 25 3 (.int .i64 0) 8 rfl Tryd.underlying25 info3 rfl (by decide) (by decide) (.slice (some ⟨wz.heap.size, 0, none⟩) 1 1) [x.f1] (l.drop k) none (l.length - k) (c - k) (fun _ => True) (fun _ => False) (by simp [Act.eval, Act.put]) (by simp [Act.eval, Act.put]) HO6.out HRD.out (fun _ _ h => h) (fun _ h => h.elim) (fun _ _ => trivial) HBA6.out (by simp) (by have := HLL.out; simp; omega) ?_; intro v9 w9 hr9 hb9 hg9 hat9; obtain ⟨g9, c9, rfl, -, -, -⟩ := Kd.R_form hr9 (by simp); have HR9 := Go.Lib.hid hr9; have HB9 := Go.Lib.hid hb9; clear hr9 hb9 hg9 hat9)
                      | (refine step_append_grows rfl (.tmp 74) (.tmp 81) 25 rfl 3 i3 (.int .i64 0) 1 8 Tryd.underlying25 hi3 hz3 hs3 hb3 rfl (by decide) none k k (encs (Value.int .i64) (l.take k)) (by simp [Act.eval, Act.put]) (fun _ => ⟨HK0.out, HK0.out⟩) (by rw [encs_length, List.length_take]; have := HKL.out; omega) (fun b hb => by cases hb) ⟨g9, 0, none⟩ (1 + (l.length - k)) c9 (encs (Value.int .i64) ([x.f1] ++ l.drop k)) (by simp [Act.eval, Act.put, Nat.add_comm]) (by rw [encs_length]; simp; omega) (ints_cells (Kd.R_reads' HR9.out).2.2) (ints_one _) (by omega) (by have := HLL.out; unfold maxLen; omega) (by have := HLL.out; omega) ?_; intro v' w' hown hgrow; obtain ⟨L, g', c', hL, rfl, hl', hg'⟩ := put_row hown HKL.out; have HP9 := Go.Lib.hid (show Fq t P n (i + 1) w2 w' L (some ⟨g', 0, none⟩) c' from by subst hL; exact HQ6.out.put HKL.out hlo.out (fun h => by have := HGE.out h; omega) HIN.out (fun z => (HFX.out z).trans ⟨fun h => h.1.symm, fun h => by subst h; exact ⟨rfl, HOT.out⟩⟩) (HB9.out.grown hgrow HB9.out.size (fun k hk => by cases hk)) hl' ⟨g', rfl⟩ hg'); clear hown hgrow hl' hg' hL))
                    all_goals (go_wp2_with fail)
                    all_goals
                      go_roundg (ga - 1)
                      case measure => have := hi.out; have := HI.out; omega
                      case rel => exact ⟨i + 1, L, some ⟨g', 0, none⟩, c', Go.Lib.hid (by have := hi.out; have := HI.out; omega), by go_num, rfl, HP9⟩
                  | some ad5 =>
                    obtain ⟨wz, hwz⟩ : ∃ wz : World, wz = wi.drewN nq := ⟨_, rfl⟩
                    rw [← hwz]
                    have hbz : Below wi.heap.size wi wz := by rw [hwz]; exact below_dn (Below.refl _ _) _
                    have HQ6 := Go.Lib.hid (HQ5.out.lift hbz)
                    obtain ⟨-, z2, -, -, -⟩ := (HX5.out.below hbz).cells
                    have hkc : (k : Int) ≤ (c : Int) := by have := HQ6.out.lc; have := HKL.out; omega
                    have hkl : (k : Int) ≤ (l.length : Int) := by have := HKL.out; omega
                    have HO6 := Go.Lib.hid (one_own wz.drew x.f1 wz.heap.size (Nat.le_refl _))
                    have HBA6 := Go.Lib.hid (show Below wz.heap.size wz (wz.drew.alloc (.cells #[.int .i64 x.f1] 3)) from below_alloc (below_drew (Below.refl _ _)) _)
                    have HCT := Go.Lib.hid (Kd.C_take HQ6.out.g HKL.out)
                    obtain ⟨i3, hi3, hz3, hs3, hb3⟩ := info3p
                    have HRD := Go.Lib.hid (show Kd.C (Kd.int .i64) (wz.drew.alloc (.cells #[.int .i64 x.f1] 3)) (if c = k then some ad5 else some (ad5.add k)) (l.length - k) (l.drop k) by
                      have h := Kd.C_drop (m := k) HQ6.out.g HKL.out HQ6.out.lc
                      rw [List.length_drop, show k * (Kd.int .i64).sz = k from Nat.mul_one k] at h
                      exact Kd.C_below h HBA6.out)
                    clear hwz hbz
                    go_region_law (first
                      | (refine Kd.R_append_rows_step (Kd.int .i64) (w0 := wz) wz.heap.size (by rfl) (.tmp 77) (.tmp 80) 25 3 (.int .i64 0) 8 rfl Tryd.underlying25 info3 rfl (by decide) (by decide) (.slice (some ⟨wz.heap.size, 0, none⟩) 1 1) [x.f1] (l.drop k) (if c = k then some ad5 else some (ad5.add k)) (l.length - k) (c - k) (fun _ => True) (fun _ => False) (by simp [Act.eval, Act.put]) (by simp [Act.eval, Act.put]) HO6.out HRD.out (fun _ _ h => h) (fun _ h => h.elim) (fun _ _ => trivial) HBA6.out (by simp) (by have := HLL.out; simp; omega) ?_; intro v9 w9 hr9 hb9 hg9 hat9; obtain ⟨g9, c9, rfl, -, -, -⟩ := Kd.R_form hr9 (by simp); have HR9 := Go.Lib.hid hr9; have HB9 := Go.Lib.hid hb9; clear hr9 hb9 hg9 hat9)
                      | (refine step_append_grows rfl (.tmp 74) (.tmp 81) 25 rfl 3 i3 (.int .i64 0) 1 8 Tryd.underlying25 hi3 hz3 hs3 hb3 rfl (by decide) (some ad5) k k (encs (Value.int .i64) (l.take k)) (by simp [Act.eval, Act.put]) (fun h => by cases h) (by rw [encs_length, List.length_take]; have := HKL.out; omega) (fun b hb => by cases hb; exact ints_cells (Kd.C_below HCT.out HB9.out)) ⟨g9, 0, none⟩ (1 + (l.length - k)) c9 (encs (Value.int .i64) ([x.f1] ++ l.drop k)) (by simp [Act.eval, Act.put, Nat.add_comm]) (by rw [encs_length]; simp; omega) (ints_cells (Kd.R_reads' HR9.out).2.2) (ints_one _) (by omega) (by have := HLL.out; unfold maxLen; omega) (by have := HLL.out; omega) ?_; intro v' w' hown hgrow; obtain ⟨L, g', c', hL, rfl, hl', hg'⟩ := put_row hown HKL.out; have HP9 := Go.Lib.hid (show Fq t P n (i + 1) w2 w' L (some ⟨g', 0, none⟩) c' from by subst hL; exact HQ6.out.put HKL.out hlo.out (fun h => by have := HGE.out h; omega) HIN.out (fun z => (HFX.out z).trans ⟨fun h => h.1.symm, fun h => by subst h; exact ⟨rfl, HOT.out⟩⟩) (HB9.out.grown hgrow HB9.out.size (fun k hk => by cases hk)) hl' ⟨g', rfl⟩ hg'); clear hown hgrow hl' hg' hL))
                    all_goals (go_wp2_with fail)
                    all_goals
                      go_roundg (ga - 1)
                      case measure => have := hi.out; have := HI.out; omega
                      case rel => exact ⟨i + 1, L, some ⟨g', 0, none⟩, c', Go.Lib.hid (by have := hi.out; have := HI.out; omega), by go_num, rfl, HP9⟩
          · have hb0 : (0 : Int) ≤ (b : Int) := by omega
            have hbt : (b : Int) < (t.length : Int) := by omega
            have m1 := (HBA2.out.below HB4.out).cell b hbl (b := false) (by simp [hbb])
            have HOT := Go.Lib.hid (HO1.out.2 (fun b2 h => by rw [show b2 = b by omega]; exact hbb))
            clear hbl hbb
            go_wp2_with fail
            refine HIC.out.mono ?_
            rintro e w5 ⟨rfl, rfl⟩
            clear HIC
            by_cases hin : x.f1 ∈ l
            · have hdi : decide (x.f1 ∈ l) = true := decide_eq_true hin
              have HSK := Go.Lib.hid (HQ4.out.skip (fun z h => by rw [← ((HFX.out z).1 h).1]; exact hin))
              rw [hdi]
              clear hin hdi
              go_wp2_with fail
              go_roundg (ga - 1)
              case measure => have := hi.out; have := HI.out; omega
              case rel => exact ⟨i + 1, l, A, c, Go.Lib.hid (by have := hi.out; have := HI.out; omega), by go_num, rfl, HSK⟩
            · have hdi : decide (x.f1 ∈ l) = false := decide_eq_false hin
              have HIN := Go.Lib.hid hin
              rw [hdi]
              have hl9 : (l.length : Int) ≤ 4096 := by have := HLL.out; omega
              clear hin hdi
              go_wp2_with fail
              go_loopg [12] l.length (fun g_ v12 w' => ∃ k : Nat, Hid (k + g_ = l.length) ∧ v12 = .int .i64 k ∧ Hid (∀ y ∈ l.take k, y < x.f1) ∧ Hid (Below w5.heap.size w5 w'))
              case atStart => exact ⟨0, Go.Lib.hid (by omega), rfl, Go.Lib.hid (fun y hy => by simp at hy), Go.Lib.hid (Below.refl _ _)⟩
              case round =>
                obtain ⟨k, hk, rfl, hlo, hbk⟩ := hrel
                obtain ⟨wi, hwi⟩ : ∃ wi : World, wi = wr := ⟨_, rfl⟩
                subst hwi
                have HQ5 := Go.Lib.hid (HQ4.out.lift hbk.out)
                have HX5 := Go.Lib.hid (HX4.out.below hbk.out)
                obtain ⟨-, z1, -, -, -⟩ := HX5.out.cells
                by_cases hlt : k < l.length
                · have hltk : (k : Int) < (l.length : Int) := by omega
                  have hk0 : (0 : Int) ≤ (k : Int) := by omega
                  have HK := Go.Lib.hid hlt
                  obtain ⟨ad5, e_, q0⟩ := Kd.at_int HQ5.out.g (k : Int) hk0 hltk
                  cases e_
                  rw [rd_nat l k hlt, Int.toNat_natCast] at q0
                  have HTK := Go.Lib.hid (List.take_succ_eq_append_getElem hlt)
                  have HGE := Go.Lib.hid (show ∀ y, l[k]'hlt = y → ¬ y < x.f1 → ∀ h : k < l.length, ¬ l[k]'h < x.f1 from fun y h1 h2 _ => by rw [h1]; exact h2)
                  generalize hy : l[k]'hlt = y at q0 HTK HGE
                  replace HGE := Go.Lib.hid (HGE.out y rfl)
                  clear hlt hy
                  by_cases hyx : y < x.f1
                  · have d1 : decide (y < x.f1) = true := decide_eq_true hyx
                    have HYX := Go.Lib.hid hyx
                    clear hyx
                    go_wp2_with fail
                    go_quiet (fail)
                    go_wp2_with fail
                    go_roundg (gk - 1)
                    case measure => have := hk.out; have := HK.out; omega
                    case rel => exact ⟨k + 1, Go.Lib.hid (by have := hk.out; have := HK.out; omega), by go_num, Go.Lib.hid (fun y hy => by
                      rw [HTK.out] at hy
                      rcases List.mem_append.1 hy with hy | hy
                      · exact hlo.out y hy
                      · rw [List.mem_singleton.1 hy]; exact HYX.out), Go.Lib.hid (below_dn hbk.out _)⟩
                  · have d1 : decide (y < x.f1) = false := decide_eq_false hyx
                    replace HGE := Go.Lib.hid (HGE.out hyx)
                    have HKL := Go.Lib.hid (Nat.le_of_lt HK.out)
                    clear hyx
                    go_wp2_with fail
                    go_quiet (fail)
                    go_wp2_with fail
                    obtain ⟨wz, hwz⟩ : ∃ wz : World, wz = wi.drewN nq := ⟨_, rfl⟩
                    rw [← hwz]
                    have hbz : Below wi.heap.size wi wz := by rw [hwz]; exact below_dn (Below.refl _ _) _
                    have HQ6 := Go.Lib.hid (HQ5.out.lift hbz)
                    obtain ⟨-, z2, -, -, -⟩ := (HX5.out.below hbz).cells
                    have hkc : (k : Int) ≤ (c : Int) := by have := HQ6.out.lc; have := HKL.out; omega
                    have hkl : (k : Int) ≤ (l.length : Int) := by have := HKL.out; omega
                    have HO6 := Go.Lib.hid (one_own wz.drew x.f1 wz.heap.size (Nat.le_refl _))
                    have HBA6 := Go.Lib.hid (show Below wz.heap.size wz (wz.drew.alloc (.cells #[.int .i64 x.f1] 3)) from below_alloc (below_drew (Below.refl _ _)) _)
                    have HCT := Go.Lib.hid (Kd.C_take HQ6.out.g HKL.out)
                    obtain ⟨i3, hi3, hz3, hs3, hb3⟩ := info3p
                    have HRD := Go.Lib.hid (show Kd.C (Kd.int .i64) (wz.drew.alloc (.cells #[.int .i64 x.f1] 3)) (if c = k then some ad5 else some (ad5.add k)) (l.length - k) (l.drop k) by
                      have h := Kd.C_drop (m := k) HQ6.out.g HKL.out HQ6.out.lc
                      rw [List.length_drop, show k * (Kd.int .i64).sz = k from Nat.mul_one k] at h
                      exact Kd.C_below h HBA6.out)
                    clear hwz hbz
                    go_region_law (first
                      | (refine Kd.R_append_rows_step (Kd.int .i64) (w0 := wz) wz.heap.size (by rfl) (.tmp 77) (.tmp 80) 25 3 (.int .i64 0) 8 rfl Tryd.underlying25 info3 rfl (by decide) (by decide) (.slice (some ⟨wz.heap.size, 0, none⟩) 1 1) [x.f1] (l.drop k) (if c = k then some ad5 else some (ad5.add k)) (l.length - k) (c - k) (fun _ => True) (fun _ => False) (by simp [Act.eval, Act.put]) (by simp [Act.eval, Act.put]) HO6.out HRD.out (fun _ _ h => h) (fun _ h => h.elim) (fun _ _ => trivial) HBA6.out (by simp) (by have := HLL.out; simp; omega) ?_; intro v9 w9 hr9 hb9 hg9 hat9; obtain ⟨g9, c9, rfl, -, -, -⟩ := Kd.R_form hr9 (by simp); have HR9 := Go.Lib.hid hr9; have HB9 := Go.Lib.hid hb9; clear hr9 hb9 hg9 hat9)
                      | (refine step_append_grows rfl (.tmp 74) (.tmp 81) 25 rfl 3 i3 (.int .i64 0) 1 8 Tryd.underlying25 hi3 hz3 hs3 hb3 rfl (by decide) (some ad5) k k (encs (Value.int .i64) (l.take k)) (by simp [Act.eval, Act.put]) (fun h => by cases h) (by rw [encs_length, List.length_take]; have := HKL.out; omega) (fun b hb => by cases hb; exact ints_cells (Kd.C_below HCT.out HB9.out)) ⟨g9, 0, none⟩ (1 + (l.length - k)) c9 (encs (Value.int .i64) ([x.f1] ++ l.drop k)) (by simp [Act.eval, Act.put, Nat.add_comm]) (by rw [encs_length]; simp; omega) (ints_cells (Kd.R_reads' HR9.out).2.2) (ints_one _) (by omega) (by have := HLL.out; unfold maxLen; omega) (by have := HLL.out; omega) ?_; intro v' w' hown hgrow; obtain ⟨L, g', c', hL, rfl, hl', hg'⟩ := put_row hown HKL.out; have HP9 := Go.Lib.hid (show Fq t P n (i + 1) w2 w' L (some ⟨g', 0, none⟩) c' from by subst hL; exact HQ6.out.put HKL.out hlo.out (fun h => by have := HGE.out h; omega) HIN.out (fun z => (HFX.out z).trans ⟨fun h => h.1.symm, fun h => by subst h; exact ⟨rfl, HOT.out⟩⟩) (HB9.out.grown hgrow HB9.out.size (fun k hk => by cases hk)) hl' ⟨g', rfl⟩ hg'); clear hown hgrow hl' hg' hL))
                    all_goals (go_wp2_with fail)
                    all_goals
                      go_roundg (ga - 1)
                      case measure => have := hi.out; have := HI.out; omega
                      case rel => exact ⟨i + 1, L, some ⟨g', 0, none⟩, c', Go.Lib.hid (by have := hi.out; have := HI.out; omega), by go_num, rfl, HP9⟩
                · have hd : decide ((k : Int) < (l.length : Int)) = false := decide_eq_false (by omega)
                  have hd2 : decide (k < l.length) = false := decide_eq_false hlt
                  have HGE := Go.Lib.hid (show ∀ h : k < l.length, ¬ l[k]'h < x.f1 from fun h => absurd h hlt)
                  have HKL := Go.Lib.hid (show k ≤ l.length by have := hk.out; omega)
                  clear hlt
                  go_wp2_with fail
                  go_quiet (fail)
                  go_wp2_with fail
                  cases A with
                  | none =>
                    obtain ⟨wz, hwz⟩ : ∃ wz : World, wz = wi.drewN nq := ⟨_, rfl⟩
                    rw [← hwz]
                    have hbz : Below wi.heap.size wi wz := by rw [hwz]; exact below_dn (Below.refl _ _) _
                    have HQ6 := Go.Lib.hid (HQ5.out.lift hbz)
                    obtain ⟨-, z2, -, -, -⟩ := (HX5.out.below hbz).cells
                    have hkc : (k : Int) ≤ (c : Int) := by have := HQ6.out.lc; have := HKL.out; omega
                    have hkl : (k : Int) ≤ (l.length : Int) := by have := HKL.out; omega
                    have HO6 := Go.Lib.hid (one_own wz.drew x.f1 wz.heap.size (Nat.le_refl _))
                    have HBA6 := Go.Lib.hid (show Below wz.heap.size wz (wz.drew.alloc (.cells #[.int .i64 x.f1] 3)) from below_alloc (below_drew (Below.refl _ _)) _)
                    have HCT := Go.Lib.hid (Kd.C_take HQ6.out.g HKL.out)
                    obtain ⟨i3, hi3, hz3, hs3, hb3⟩ := info3p
                    have HRD := Go.Lib.hid (show Kd.C (Kd.int .i64) (wz.drew.alloc (.cells #[.int .i64 x.f1] 3)) none (l.length - k) (l.drop k) by
                      obtain ⟨h1, h2⟩ := HQ6.out.nl rfl
                      rw [List.eq_nil_of_length_eq_zero h1, List.drop_nil]
                      rw [List.length_nil, Nat.zero_sub]
                      exact Kd.C_nil _ _)
                    have HK0 := Go.Lib.hid (show k = 0 by have := (HQ6.out.nl rfl).1; have := HKL.out; omega)
                    have HL0 := Go.Lib.hid (show l = [] from List.eq_nil_of_length_eq_zero (HQ6.out.nl rfl).1)
                    have HC0 := Go.Lib.hid (HQ6.out.nl rfl).2
                    clear hwz hbz
                    go_region_law (first
                      | (refine Kd.R_append_rows_step (Kd.int .i64) (w0 := wz) wz.heap.size (by rfl) (.tmp 77) (.tmp 80) 25 3 (.int .i64 0) 8 rfl Tryd.underlying25 info3 rfl (by decide) (by decide) (.slice (some ⟨wz.heap.size, 0, none⟩) 1 1) [x.f1] (l.drop k) none (l.length - k) (c - k) (fun _ => True) (fun _ => False) (by simp [Act.eval, Act.put]) (by simp [Act.eval, Act.put]) HO6.out HRD.out (fun _ _ h => h) (fun _ h => h.elim) (fun _ _ => trivial) HBA6.out (by simp) (by have := HLL.out; simp; omega) ?_; intro v9 w9 hr9 hb9 hg9 hat9; obtain ⟨g9, c9, rfl, -, -, -⟩ := Kd.R_form hr9 (by simp); have HR9 := Go.Lib.hid hr9; have HB9 := Go.Lib.hid hb9; clear hr9 hb9 hg9 hat9)
                      | (refine step_append_grows rfl (.tmp 74) (.tmp 81) 25 rfl 3 i3 (.int .i64 0) 1 8 Tryd.underlying25 hi3 hz3 hs3 hb3 rfl (by decide) none k k (encs (Value.int .i64) (l.take k)) (by simp [Act.eval, Act.put]) (fun _ => ⟨HK0.out, HK0.out⟩) (by rw [encs_length, List.length_take]; have := HKL.out; omega) (fun b hb => by cases hb) ⟨g9, 0, none⟩ (1 + (l.length - k)) c9 (encs (Value.int .i64) ([x.f1] ++ l.drop k)) (by simp [Act.eval, Act.put, Nat.add_comm]) (by rw [encs_length]; simp; omega) (ints_cells (Kd.R_reads' HR9.out).2.2) (ints_one _) (by omega) (by have := HLL.out; unfold maxLen; omega) (by have := HLL.out; omega) ?_; intro v' w' hown hgrow; obtain ⟨L, g', c', hL, rfl, hl', hg'⟩ := put_row hown HKL.out; have HP9 := Go.Lib.hid (show Fq t P n (i + 1) w2 w' L (some ⟨g', 0, none⟩) c' from by subst hL; exact HQ6.out.put HKL.out hlo.out (fun h => by have := HGE.out h; omega) HIN.out (fun z => (HFX.out z).trans ⟨fun h => h.1.symm, fun h => by subst h; exact ⟨rfl, HOT.out⟩⟩) (HB9.out.grown hgrow HB9.out.size (fun k hk => by cases hk)) hl' ⟨g', rfl⟩ hg'); clear hown hgrow hl' hg' hL))
                    all_goals (go_wp2_with fail)
                    all_goals
                      go_roundg (ga - 1)
                      case measure => have := hi.out; have := HI.out; omega
                      case rel => exact ⟨i + 1, L, some ⟨g', 0, none⟩, c', Go.Lib.hid (by have := hi.out; have := HI.out; omega), by go_num, rfl, HP9⟩
                  | some ad5 =>
                    obtain ⟨wz, hwz⟩ : ∃ wz : World, wz = wi.drewN nq := ⟨_, rfl⟩
                    rw [← hwz]
                    have hbz : Below wi.heap.size wi wz := by rw [hwz]; exact below_dn (Below.refl _ _) _
                    have HQ6 := Go.Lib.hid (HQ5.out.lift hbz)
                    obtain ⟨-, z2, -, -, -⟩ := (HX5.out.below hbz).cells
                    have hkc : (k : Int) ≤ (c : Int) := by have := HQ6.out.lc; have := HKL.out; omega
                    have hkl : (k : Int) ≤ (l.length : Int) := by have := HKL.out; omega
                    have HO6 := Go.Lib.hid (one_own wz.drew x.f1 wz.heap.size (Nat.le_refl _))
                    have HBA6 := Go.Lib.hid (show Below wz.heap.size wz (wz.drew.alloc (.cells #[.int .i64 x.f1] 3)) from below_alloc (below_drew (Below.refl _ _)) _)
                    have HCT := Go.Lib.hid (Kd.C_take HQ6.out.g HKL.out)
                    obtain ⟨i3, hi3, hz3, hs3, hb3⟩ := info3p
                    have HRD := Go.Lib.hid (show Kd.C (Kd.int .i64) (wz.drew.alloc (.cells #[.int .i64 x.f1] 3)) (if c = k then some ad5 else some (ad5.add k)) (l.length - k) (l.drop k) by
                      have h := Kd.C_drop (m := k) HQ6.out.g HKL.out HQ6.out.lc
                      rw [List.length_drop, show k * (Kd.int .i64).sz = k from Nat.mul_one k] at h
                      exact Kd.C_below h HBA6.out)
                    clear hwz hbz
                    go_region_law (first
                      | (refine Kd.R_append_rows_step (Kd.int .i64) (w0 := wz) wz.heap.size (by rfl) (.tmp 77) (.tmp 80) 25 3 (.int .i64 0) 8 rfl Tryd.underlying25 info3 rfl (by decide) (by decide) (.slice (some ⟨wz.heap.size, 0, none⟩) 1 1) [x.f1] (l.drop k) (if c = k then some ad5 else some (ad5.add k)) (l.length - k) (c - k) (fun _ => True) (fun _ => False) (by simp [Act.eval, Act.put]) (by simp [Act.eval, Act.put]) HO6.out HRD.out (fun _ _ h => h) (fun _ h => h.elim) (fun _ _ => trivial) HBA6.out (by simp) (by have := HLL.out; simp; omega) ?_; intro v9 w9 hr9 hb9 hg9 hat9; obtain ⟨g9, c9, rfl, -, -, -⟩ := Kd.R_form hr9 (by simp); have HR9 := Go.Lib.hid hr9; have HB9 := Go.Lib.hid hb9; clear hr9 hb9 hg9 hat9)
                      | (refine step_append_grows rfl (.tmp 74) (.tmp 81) 25 rfl 3 i3 (.int .i64 0) 1 8 Tryd.underlying25 hi3 hz3 hs3 hb3 rfl (by decide) (some ad5) k k (encs (Value.int .i64) (l.take k)) (by simp [Act.eval, Act.put]) (fun h => by cases h) (by rw [encs_length, List.length_take]; have := HKL.out; omega) (fun b hb => by cases hb; exact ints_cells (Kd.C_below HCT.out HB9.out)) ⟨g9, 0, none⟩ (1 + (l.length - k)) c9 (encs (Value.int .i64) ([x.f1] ++ l.drop k)) (by simp [Act.eval, Act.put, Nat.add_comm]) (by rw [encs_length]; simp; omega) (ints_cells (Kd.R_reads' HR9.out).2.2) (ints_one _) (by omega) (by have := HLL.out; unfold maxLen; omega) (by have := HLL.out; omega) ?_; intro v' w' hown hgrow; obtain ⟨L, g', c', hL, rfl, hl', hg'⟩ := put_row hown HKL.out; have HP9 := Go.Lib.hid (show Fq t P n (i + 1) w2 w' L (some ⟨g', 0, none⟩) c' from by subst hL; exact HQ6.out.put HKL.out hlo.out (fun h => by have := HGE.out h; omega) HIN.out (fun z => (HFX.out z).trans ⟨fun h => h.1.symm, fun h => by subst h; exact ⟨rfl, HOT.out⟩⟩) (HB9.out.grown hgrow HB9.out.size (fun k hk => by cases hk)) hl' ⟨g', rfl⟩ hg'); clear hown hgrow hl' hg' hL))
                    all_goals (go_wp2_with fail)
                    all_goals
                      go_roundg (ga - 1)
                      case measure => have := hi.out; have := HI.out; omega
                      case rel => exact ⟨i + 1, L, some ⟨g', 0, none⟩, c', Go.Lib.hid (by have := hi.out; have := HI.out; omega), by go_num, rfl, HP9⟩
        · have e0 : (x.f0 == 0) = false := beq_eq_false_iff_ne.2 h0
          have e1 : (x.f0 != 0) = true := by rw [bne, e0]; rfl
          have HSK := Go.Lib.hid ((hq.out.lift HBX.out).skip (fun z h => absurd ((HFR.out z).1 h).2.1 h0))
          clear h0
          go_wp2_with fail
          go_roundg (ga - 1)
          case measure => have := hi.out; have := HI.out; omega
          case rel => exact ⟨i + 1, l, A, c, Go.Lib.hid (by have := hi.out; have := HI.out; omega), by go_num, rfl, HSK⟩
    · have hd : decide ((i : Int) < (t.length : Int)) = false := decide_eq_false (by omega)
      have hd2 : decide (i < t.length) = false := decide_eq_false hlt
      have HV := Go.Lib.hid (FaP.mk HP.out HNT.out (show Fq t P n t.length w2 wo l A c by have h := hq.out; rw [show i = t.length by have := hi.out; omega] at h; exact h) HB2.out)
      clear hlt hq hi
      go_wp2_with fail
      go_ret
      exact HV.out
end Go.Proofs.YtjhinklijopobaaDoor.Co
