import Derived.Test.YtjhinklijopobaaDoorGc
import Derived.Test.YtjhinklijopobaaDoorFd
namespace Go.Proofs.YtjhinklijopobaaDoor.Co
open Go.RowKit Go.Proofs.YtjhinklijopobaaDoor.PCoreChecks Go.Proofs.YtjhinklijopobaaDoorW.PrintWords Go.Proofs.YtjhinklijopobaaDoorW.PrintLast Go.Proofs.YtjhinklijopobaaDoorW.PrintMore
set_option linter.unusedVariables false
set_option linter.unusedSimpArgs false

/-! ### The document's Grow -/
theorem info32 : (Tryd.prog.info? 32).map (fun i => (i.zero, i.size, i.bytes)) = some (some (.pointer none), 1, 8) := by kernel_rfl
/-- A node while its kids are gathered. -/
structure Bn (w1 : World) (b : Nat) (op n : Int) (v2 v3 v4 v5 : Value) (kb : List Nat) (W : World) : Prop where
  bl : Below w1.heap.size w1 W
  nb : Nb W b op n v2 v3 v4 v5
  lo : w1.heap.size ≤ b
  r5 : Kd.R kp 32 W w1.heap.size (fun _ => True) v5 kb
theorem Bn.lift {w1 W W' : World} {b : Nat} {op n : Int} {v2 v3 v4 v5 : Value} {kb : List Nat} (h : Bn w1 b op n v2 v3 v4 v5 kb W) (hb : Below W.heap.size W W') : Bn w1 b op n v2 v3 v4 v5 kb W' :=
  ⟨below_step h.bl hb, h.nb.below hb, h.lo, Kd.R_below h.r5 hb⟩
theorem Bn.kid {w1 W W' : World} {b : Nat} {op n : Int} {v2 v3 v4 v5 v5' : Value} {kb : List Nat} {p : Nat} (h : Bn w1 b op n v2 v3 v4 v5 kb W) (hr : Kd.R kp 32 W' w1.heap.size (fun _ => True) v5' (kb ++ [p])) (hb : Below w1.heap.size w1 W') (hg : W.grownBy W' v5.ownBlock) :
    Bn w1 b op n v2 v3 v4 v5' (kb ++ [p]) (W'.setCell ⟨b, 5, none⟩ v5') := by
  have htb : Nb W' b op n v2 v3 v4 v5 := blk_grown h.nb hg (Kd.R_ne h.r5 h.nb (by decide))
  exact ⟨below_set hb h.lo, blk_put htb 5 _ rfl, h.lo, Kd.R_set hr htb (fun q hq => by rw [List.mem_singleton.1 hq]; decide) 5 _⟩
theorem Bn.start {w1 : World} {op n : Int} {v2 v3 v4 : Value} : Bn w1 w1.heap.size op n v2 v3 v4 (.slice none 0 0) [] (w1.alloc (.cells #[.int .i64 op, .int .i64 n, v2, v3, v4, .slice none 0 0] 76)) :=
  ⟨below_alloc (Below.refl _ _) _, blk_new _ _, Nat.le_refl _, Kd.R_nil _ _ _ _ _⟩
theorem Bn.cells {w1 W : World} {b : Nat} {op n : Int} {v2 v3 v4 v5 : Value} {kb : List Nat} (h : Bn w1 b op n v2 v3 v4 v5 kb W) : W.cell? ⟨b, 5, none⟩ = some v5 ∧ W.frozen? ⟨b, 5, none⟩ = false :=
  ⟨h.nb.cells.2.2.2.2.2, blk_frozen h.nb 5⟩
theorem Bn.old {w1 W : World} {b : Nat} {op n : Int} {v2 v3 v4 v5 : Value} {kb : List Nat} (h : Bn w1 b op n v2 v3 v4 v5 kb W) {a : Addr} {v : Value} (hc : w1.cell? a = some v) : W.cell? a = some v := pw_cell_below h.bl hc
theorem Bn.grown5 {w1 W W' : World} {b : Nat} {op n : Int} {v2 v3 v4 v5 : Value} {kb : List Nat} (h : Bn w1 b op n v2 v3 v4 v5 kb W) (hg : W.grownBy W' v5.ownBlock) : W'.cell? ⟨b, 5, none⟩ = some v5 ∧ W'.frozen? ⟨b, 5, none⟩ = false := by
  have htb : Nb W' b op n v2 v3 v4 v5 := blk_grown h.nb hg (Kd.R_ne h.r5 h.nb (by decide))
  exact ⟨htb.cells.2.2.2.2.2, blk_frozen htb 5⟩
/-- A node that stands; the row of pointers v is not among its blocks. -/
def Gd (w W : World) (v : Value) (b : Nat) (x : S28) (kb : List Nat) : Prop := ∃ lo hi A2 c2 A3 c3 A4 c4 v5, w.heap.size ≤ lo ∧ hi ≤ W.heap.size ∧ (∀ k, lo ≤ k → k < hi → some k ≠ v.ownBlock) ∧ lo ≤ b ∧ b < hi ∧
  Nb W b x.f0 x.f1 (.slice A2 x.f2.length c2) (.slice A3 x.f3.length c3) (.slice A4 x.f4.length c4) v5 ∧ x.f2.length ≤ c2 ∧ Kd.C (Kd.int .i64) w A2 x.f2.length x.f2 ∧ x.f4.length ≤ c4 ∧ Kd.C k86 w A4 x.f4.length x.f4 ∧ Kd.R kp 32 W lo (fun k => k < hi) v5 kb
theorem Gd.move {w W W' : World} {v v' : Value} {b : Nat} {x : S28} {kb : List Nat} (h : Gd w W v b x kb) (hs : W.heap.size ≤ W'.heap.size) (hm : ∀ k, w.heap.size ≤ k → k < W.heap.size → some k ≠ v.ownBlock → W'.heap[k]? = W.heap[k]?) (hat : v'.ownBlock = v.ownBlock ∨ ∃ b, v'.ownBlock = some b ∧ W.heap.size ≤ b) : Gd w W' v' b x kb := by
  obtain ⟨lo, hi, A2, c2, A3, c3, A4, c4, v5, h1, h2, h3, h4, h5, hn, l2, g2, l4, g4, r5⟩ := h
  have hmm : ∀ k, lo ≤ k → k < hi → W'.heap[k]? = W.heap[k]? := fun k hk1 hk2 => hm k (by omega) (by omega) (h3 k hk1 hk2)
  refine ⟨lo, hi, A2, c2, A3, c3, A4, c4, v5, h1, by omega, fun k hk1 hk2 => ?_, h4, h5, (hmm b h4 h5).trans hn, l2, g2, l4, g4, R_band r5 hmm⟩
  rcases hat with hat | ⟨g, hg, hle⟩
  · rw [hat]; exact h3 k hk1 hk2
  · rw [hg]; intro e; injection e with e; omega
theorem Bn.done {w w1 W : World} {b : Nat} {x : S28} {A2 A3 A4 : Option Addr} {c2 c3 c4 : Nat} {v v5 : Value} {kb : List Nat} (h : Bn w1 b x.f0 x.f1 (.slice A2 x.f2.length c2) (.slice A3 x.f3.length c3) (.slice A4 x.f4.length c4) v5 kb W) (hl : w.heap.size ≤ w1.heap.size) (l2 : x.f2.length ≤ c2) (g2 : Kd.C (Kd.int .i64) w A2 x.f2.length x.f2) (l4 : x.f4.length ≤ c4) (g4 : Kd.C k86 w A4 x.f4.length x.f4)
    (hv : ∀ k, v.ownBlock = some k → k < w1.heap.size) : Gd w W v b x kb :=
  ⟨w1.heap.size, W.heap.size, A2, c2, A3, c3, A4, c4, v5, hl, Nat.le_refl _, fun k hk _ e => by have := hv k e.symm; omega, h.lo, blk_lt h.nb, h.nb, l2, g2, l4, g4, Kd.R_mono (Kd.R_bound h.r5) (fun _ hk => hk.2.2.1)⟩
/-- What stands at the head of a round. -/
structure Gx (w W : World) (t : List S28) (i : Nat) (ps : Nat → Nat) (v : Value) : Prop where
  b : Below w.heap.size w W
  nd : ∀ j (h : j < t.length), j < i → Gd w W v (ps j) (t[j]'h) ((t[j]'h).f3.map fun k => ps k.toNat)
  r : Kd.R kp 32 W w.heap.size (fun _ => True) v ((List.range i).map ps)
theorem Gx.start (w : World) (t : List S28) : Gx w w t 0 (fun _ => 0) (.slice none 0 0) := ⟨Below.refl _ _, fun j _ h => by omega, Kd.R_nil _ _ _ _ _⟩
theorem range_ps (ps : Nat → Nat) (i b : Nat) : (List.range (i + 1)).map (fset ps i b) = (List.range i).map ps ++ [b] := by
  rw [List.range_succ, List.map_append, List.map_cons, List.map_nil]
  congr 1
  · refine List.map_congr_left fun k hk => ?_
    have := List.mem_range.1 hk
    unfold fset
    rw [if_neg (by omega)]
  · unfold fset; rw [if_pos rfl]
/-- The round's end: the row of pointers has grown. -/
theorem Gx.next {w wo W W' : World} {t : List S28} {i : Nat} {ps : Nat → Nat} {v v' : Value} {b : Nat} (h : Gx w wo t i ps v) (hr : rB t = true) (hi : i < t.length) (hbw : Below wo.heap.size wo W) (hd : Gd w W v b (t[i]'hi) ((t[i]'hi).f3.map fun k => ps k.toNat))
    (hR : Kd.R kp 32 W' w.heap.size (fun _ => True) v' ((List.range i).map ps ++ [b])) (hb : Below w.heap.size w W') (hg : W.grownBy W' v.ownBlock) (hat : v'.ownBlock = v.ownBlock ∨ ∃ b, v'.ownBlock = some b ∧ W.heap.size ≤ b) : Gx w W' t (i + 1) (fset ps i b) v' := by
  have hk : ∀ j (hj : j < t.length), j < i + 1 → (t[j]'hj).f3.map (fun k => fset ps i b k.toNat) = (t[j]'hj).f3.map fun k => ps k.toNat := by
    intro j hj hji
    refine List.map_congr_left fun k hk => ?_
    have := badK_mem (rB_at hr j hj) hk
    unfold fset
    rw [if_neg (by omega)]
  have hm : ∀ k, w.heap.size ≤ k → k < W.heap.size → some k ≠ v.ownBlock → W'.heap[k]? = W.heap[k]? := fun k _ h2 h3 => hg.block k h2 h3
  refine ⟨hb, fun j hj hji => ?_, by rw [range_ps]; exact hR⟩
  rw [hk j hj hji]
  by_cases e : j = i
  · subst e
    rw [show fset ps j b j = b by unfold fset; rw [if_pos rfl]]
    exact hd.move hg.size hm hat
  · rw [show fset ps i b j = ps j by unfold fset; rw [if_neg e]]
    exact ((h.nd j hj (by omega)).move (v' := v) hbw.size (fun k _ h2 _ => hbw.block k h2) (Or.inl rfl)).move hg.size hm hat
theorem Gx.reads {w W : World} {t : List S28} {i : Nat} {ps : Nat → Nat} {v : Value} (h : Gx w W t i ps v) : Rf W t i ps := fun j hj hji => by
  obtain ⟨lo, hi, A2, c2, A3, c3, A4, c4, v5, h1, h2, h3, h4, h5, hn, l2, g2, l4, g4, r5⟩ := h.nd j hj hji
  obtain ⟨A5, c5, rfl, l5, g5⟩ := Kd.R_reads r5
  exact ⟨A2, c2, A3, _, c3, A4, c4, A5, c5, hn, l2, Kd.C_below g2 h.b, l4, Kd.C_below g4 h.b, l5, g5⟩
def RgP (t : List S28) (N : Nat) (w : World) (e : Ending) (w' : World) : Prop := ∃ ps, e = .returned (ptrV (ps (N - 1))) ∧ Rf w' t N ps ∧ Below w.heap.size w w'

set_option maxHeartbeats 16000000 in
set_option maxRecDepth 100000 in
theorem rgrow_calls (t : List S28) (htr : treeB t = true) (hn : t.length ≤ 4096) (N : Nat) (hN0 : 0 < N) (hNt : N ≤ t.length) (A0 : Option Addr) (c0 : Nat) (w : World) (hr : Kd.C k28 w A0 t.length t) :
    Calls Tryd.prog 27 #[.slice A0 N c0] w (RgP t N w) := by
  have HR := Go.Lib.hid hr
  have HTR := Go.Lib.hid htr
  have HN := Go.Lib.hid hn
  have HN0 := Go.Lib.hid hN0
  have HNT := Go.Lib.hid hNt
  have HG0 := Go.Lib.hid (Gx.start w t)
  have hN9 : (N : Int) ≤ 4096 := by omega
  clear hr htr hn hN0 hNt
  go_enter Tryd.func27, Tryd.ntmps27
  go_wp2_with fail
  go_loopg [3, 11] N (fun g_ v3 v11 w' => ∃ (i : Nat) (ps : Nat → Nat) (Al : Option Addr) (cl : Nat), Hid (i + g_ = N) ∧ v11 = .int .i64 i ∧ v3 = .slice Al i cl ∧ Hid (Gx w w' t i ps (.slice Al i cl)))
  case atStart => exact ⟨0, _, none, 0, Go.Lib.hid (by omega), rfl, rfl, HG0⟩
  case round =>
    clear HG0
    obtain ⟨i, ps, Al, cl, hi, rfl, rfl, hgr⟩ := hrel
    obtain ⟨wo, hwo⟩ : ∃ wo : World, wo = wr := ⟨_, rfl⟩
    subst hwo
    obtain ⟨ga, hga⟩ : ∃ ga : Nat, ga = gk := ⟨_, rfl⟩
    subst hga
    by_cases hltN : i < N
    · have hltN' : (i : Int) < (N : Int) := by omega
      have hlt : i < t.length := by have := HNT.out; omega
      have hlt' : (i : Int) < (t.length : Int) := by omega
      have hi0 : (0 : Int) ≤ (i : Int) := by omega
      have HI := Go.Lib.hid hlt
      have HIN := Go.Lib.hid hltN
      obtain ⟨ad, A2, c2, A3, c3, A4, c4, e_, p0, p1, p2, p3, p4, l2, g2, l3, g3, l4, g4⟩ := at_T28 HR.out (i : Int) hi0 hlt'
      cases e_
      rw [rdT_nat t i hlt] at p0 p1 p2 p3 p4 l2 g2 l3 g3 l4 g4
      rw [Int.toNat_natCast] at p0 p1 p2 p3 p4
      replace p0 := pw_cell_below hgr.out.b p0
      replace p1 := pw_cell_below hgr.out.b p1
      replace p2 := pw_cell_below hgr.out.b p2
      replace p3 := pw_cell_below hgr.out.b p3
      replace p4 := pw_cell_below hgr.out.b p4
      have HKD := Go.Lib.hid (fun k (hk : k ∈ (t[i]'hlt).f3) => badK_mem (rB_at (treeB_parts HTR.out).2.1 i hlt) hk)
      have HKL := Go.Lib.hid (kids_len HTR.out hlt)
      have HNX := Go.Lib.hid (fun W W' b v' => Gx.next (W := W) (W' := W') (b := b) (v' := v') hgr.out (treeB_parts HTR.out).2.1 hlt)
      generalize t[i]'hlt = x at p0 p1 p2 p3 p4 l2 g2 l3 g3 l4 g4 HKD HKL HNX
      obtain ⟨w1, hw1⟩ : ∃ w1, w1 = wo.alloc (.cells #[.int .i64 x.f0, .int .i64 x.f1, .slice A2 x.f2.length c2, .slice A3 x.f3.length c3, .slice A4 x.f4.length c4] 28) := ⟨_, rfl⟩
      have HB1 := Go.Lib.hid (show Below wo.heap.size wo w1 by rw [hw1]; exact below_alloc (Below.refl _ _) _)
      have HX1 := Go.Lib.hid (show Bx w1 wo.heap.size x A2 c2 A3 c3 A4 c4 by rw [hw1]; exact Bx.made wo x A2 A3 A4 c2 c3 c4)
      have HBU := Go.Lib.hid (Bn.start (w1 := w1) (op := x.f0) (n := x.f1) (v2 := .slice A2 x.f2.length c2) (v3 := .slice A3 x.f3.length c3) (v4 := .slice A4 x.f4.length c4))
      have HG2 := Go.Lib.hid g2
      have HG3 := Go.Lib.hid (Kd.C_below (Kd.C_below g3 hgr.out.b) HB1.out)
      have HG4 := Go.Lib.hid g4
      have HL2 := Go.Lib.hid l2
      have HL4 := Go.Lib.hid l4
      have HRL := Go.Lib.hid (Kd.R_below hgr.out.r HB1.out)
      have hk9 : (x.f3.length : Int) ≤ 4096 := by have := HKL.out; have := HI.out; have := HN.out; omega
      obtain ⟨b, hb⟩ : ∃ b, b = w1.heap.size := ⟨_, rfl⟩
      rw [← hb] at HBU
      have hb1 : wo.heap.size + 1 = b := by rw [hb, hw1]; simp
      have HW1 := Go.Lib.hid hw1
      have HBE := Go.Lib.hid hb1
      clear hlt hltN g2 g3 g4 l2 l3 l4 hw1 hb hb1
      go_wp2_with fail
      rw [← HW1.out, HBE.out]
      clear p0 p1 p2 p3 p4 HW1
      go_loopg [21] x.f3.length (fun g_ v21 w' => ∃ (j : Nat) (v5 : Value), Hid (j + g_ = x.f3.length) ∧ v21 = .int .i64 j ∧ Hid (Bn w1 b x.f0 x.f1 (.slice A2 x.f2.length c2) (.slice A3 x.f3.length c3) (.slice A4 x.f4.length c4) v5 ((x.f3.take j).map fun k => ps k.toNat) w'))
      case atStart => exact ⟨0, _, Go.Lib.hid (by omega), rfl, HBU⟩
      case round =>
        clear HBU
        obtain ⟨j, v5, hj, rfl, hbu⟩ := hrel
        obtain ⟨wi, hwi⟩ : ∃ wi : World, wi = wr := ⟨_, rfl⟩
        subst hwi
        by_cases hlt : j < x.f3.length
        · have hltj : (j : Int) < (x.f3.length : Int) := by omega
          have hj0 : (0 : Int) ≤ (j : Int) := by omega
          have HJ := Go.Lib.hid hlt
          obtain ⟨ad3, e_, q0⟩ := Kd.at_int HG3.out (j : Int) hj0 hltj
          cases e_
          rw [rd_nat x.f3 j hlt, Int.toNat_natCast] at q0
          have HTK := Go.Lib.hid (show (x.f3.take (j + 1)).map (fun k => ps k.toNat) = (x.f3.take j).map (fun k => ps k.toNat) ++ [ps (x.f3[j]'hlt).toNat] by rw [List.take_succ_eq_append_getElem hlt, List.map_append]; rfl)
          obtain ⟨k, hk⟩ : ∃ k : Nat, x.f3[j]'hlt = (k : Int) := ⟨(x.f3[j]'hlt).toNat, by have := HKD.out _ (List.getElem_mem hlt); omega⟩
          have hkb := HKD.out _ (List.getElem_mem hlt)
          rw [hk] at q0 hkb HTK
          rw [Int.toNat_natCast] at HTK
          have hk0 : (0 : Int) ≤ (k : Int) := by omega
          have hkn : (k : Int) < (i : Int) := by omega
          have HKI := Go.Lib.hid (show k < i by omega)
          have hrd := Kd.R_reads' HRL.out
          have hll : (List.range i).length = i := List.length_range
          obtain ⟨adl, cs, e_, _, hK, hcell⟩ := Kd.C_get hrd.2.2 (0 : Nat) (k : Int) hk0 (by rw [List.length_map, hll]; omega)
          have hK' : cs = [ptrV (((List.range i).map ps).getD (k : Int).toNat 0)] := hK
          subst hK'
          have hkc := hcell 0 _ rfl
          have hk1 : kp.sz = 1 := rfl
          rw [hk1, Int.toNat_natCast, Nat.mul_one, Nat.add_zero, List.getD_eq_getElem?_getD, List.getElem?_map, List.getElem?_range (by omega : k < i)] at hkc
          simp only [Option.map_some, Option.getD_some] at hkc
          cases e_
          generalize hkb0 : (x.f3.take j).map (fun k => ps k.toNat) = kb at hbu HTK
          have HKB := Go.Lib.hid (show kb.length ≤ 4096 by rw [← hkb0, List.length_map, List.length_take]; omega)
          clear hlt hk hkb hkb0 hrd hll hK hcell hk1
          have n0 := hbu.out.old q0
          have n1 := hbu.out.old hkc
          obtain ⟨n3, f3⟩ := hbu.out.cells
          have N3 : ∀ o, (wi.alloc o).cell? ⟨b, 5, none⟩ = some v5 := fun o => (hbu.out.lift (below_alloc (Below.refl _ _) o)).cells.1
          clear q0 hkc
          go_wp2_with fail
          have HBD := Go.Lib.hid (hbu.out.lift (below_drew (Below.refl _ _)))
          go_region_law ((refine Kd.R_append_step kp (w0 := w1) (W := wi.drew) w1.heap.size (by rfl) (.tmp 29) (.tmp 34) 74 32 (.pointer none) 8 rfl Tryd.underlying74 info32 rfl (by decide) (by decide) v5 kb (ps k) [ptrV (ps k)] (fun _ => True) (fun _ => False) (by simp [Act.eval, Act.put]) (by simp [Act.eval, Act.put]) rfl (fun _ h => h.elim) (fun _ _ => trivial) HBD.out.r5 HBD.out.bl HBD.out.bl.size (by have := HKB.out; omega) ?_; intro v9 w9 hr9 hb9 hg9 hat9; obtain ⟨A9, c9, rfl⟩ := Kd.R_slice hr9; have HB9 := Go.Lib.hid (HBD.out.kid hr9 hb9 hg9); obtain ⟨g3, gf3⟩ := HBD.out.grown5 hg9; clear hr9 hb9 hg9 hat9))
          all_goals
            go_wp2_with fail
            go_roundg (gk - 1)
            case measure => have := hj.out; have := HJ.out; omega
            case rel => exact ⟨j + 1, .slice A9 (kb.length + 1) c9, Go.Lib.hid (by have := hj.out; have := HJ.out; omega), by go_num, Go.Lib.hid (by have h := HB9.out; rw [List.length_append, List.length_singleton] at h; rw [HTK.out]; exact h)⟩
        · have hd : decide ((j : Int) < (x.f3.length : Int)) = false := decide_eq_false (by omega)
          have hd2 : decide (j < x.f3.length) = false := decide_eq_false hlt
          have HB4 := Go.Lib.hid (show Bn w1 b x.f0 x.f1 (.slice A2 x.f2.length c2) (.slice A3 x.f3.length c3) (.slice A4 x.f4.length c4) v5 (x.f3.map fun k => ps k.toNat) wi by have h := hbu.out; rw [List.take_of_length_le (by omega)] at h; exact h)
          have HBW := Go.Lib.hid (show Below wo.heap.size wo wi from HB1.out.trans (HB4.out.bl.mono HB1.out.size))
          have HGD := Go.Lib.hid (Bn.done (w := w) (v := .slice Al i cl) HB4.out (Nat.le_trans hgr.out.b.size HB1.out.size) HL2.out HG2.out HL4.out HG4.out (fun k hk => Kd.R_lt HRL.out k hk))
          have HRW := Go.Lib.hid (Kd.R_below hgr.out.r HBW.out)
          have HRB := Go.Lib.hid (below_step hgr.out.b HBW.out)
          clear hlt hbu hj
          go_wp2_with (first | (at_builtin; refine Kd.R_append kp (w0 := w) (W := wi) w.heap.size (by rfl) (.tmp 39) (.tmp 41) 74 32 (.pointer none) 8 rfl Tryd.underlying74 info32 rfl (by decide) (by decide) (.slice Al i cl) ((List.range i).map ps) b [ptrV b] (fun _ => True) (fun _ => False) (by simp [Act.eval, Act.put]) (by simp [Act.eval, Act.put]) rfl (fun _ h => h.elim) (fun _ _ => trivial) HRW.out HRB.out HRB.out.size (by rw [List.length_map, List.length_range]; have := HI.out; have := HN.out; omega) ?_; intro v9 w9 hr9 hb9 hg9 hat9; obtain ⟨A9, c9, rfl⟩ := Kd.R_slice hr9; have HB9 := Go.Lib.hid (HNX.out _ _ _ _ HBW.out HGD.out hr9 hb9 hg9 hat9); rw [List.length_append, List.length_map, List.length_range, List.length_singleton] at HB9 ⊢; clear hr9 hb9 hg9 hat9) | fail)
          go_roundg (ga - 1)
          case measure => have := hi.out; have := HIN.out; omega
          case rel => exact ⟨i + 1, fset ps i b, A9, c9, Go.Lib.hid (by have := hi.out; have := HIN.out; omega), by go_num, rfl, HB9⟩
    · have hd : decide ((i : Int) < (N : Int)) = false := decide_eq_false (by omega)
      have hd2 : decide (i < N) = false := decide_eq_false hltN
      have hiN : i = N := by have := hi.out; omega
      subst hiN
      have HE := Go.Lib.hid (show RgP t i w (.returned (ptrV (ps (i - 1)))) wo from ⟨ps, rfl, hgr.out.reads, hgr.out.b⟩)
      have hl0 : (0 : Int) ≤ (i : Int) - 1 := by have := HN0.out; omega
      have hl1 : (i : Int) - 1 < (i : Int) := by omega
      have hl2 : (1 : Int) ≤ (i : Int) := by omega
      have hln : ((i : Int) - 1).toNat = i - 1 := by omega
      have hrd := Kd.R_reads' hgr.out.r
      have hll : (List.range i).length = i := List.length_range
      obtain ⟨adl, cs, e_, _, hK, hcell⟩ := Kd.C_get hrd.2.2 (0 : Nat) ((i : Int) - 1) hl0 (by rw [List.length_map, hll]; omega)
      have hK' : cs = [ptrV (((List.range i).map ps).getD ((i : Int) - 1).toNat 0)] := hK
      subst hK'
      have m1 := hcell 0 _ rfl
      have hk1 : kp.sz = 1 := rfl
      rw [hk1, hln, Nat.mul_one, Nat.add_zero, List.getD_eq_getElem?_getD, List.getElem?_map, List.getElem?_range (by have := HN0.out; omega : i - 1 < i)] at m1
      simp only [Option.map_some, Option.getD_some] at m1
      cases e_
      clear hltN hgr hi hrd hll hK hcell hk1
      go_wp2_with fail
      go_ret
      exact HE.out
end Go.Proofs.YtjhinklijopobaaDoor.Co
