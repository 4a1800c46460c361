import Derived.Test.YtdobkkoonamocaaMe
import Derived.Deep.AppendLies
import Derived.Deep.RegionLaw
namespace Go.Proofs.Ytdobkkoonamocaa.Mo
open Go.RowKit Go.Proofs.Ytdobkkoonamocaa.PModulesOrdered Go.Proofs.YtdobkkoonamocaaW.PrintWords Go.Proofs.YtdobkkoonamocaaW.PrintLast Go.Proofs.YtdobkkoonamocaaW.PrintMore
set_option linter.unusedVariables false
set_option linter.unusedSimpArgs false

abbrev strs (l : List ByteArray) : List Value := encs Value.string l
/-- The names of what is done. -/
def dnm (N : List ByteArray) (out : List Nat) : List ByteArray := out.map fun (k : Nat) => sx N (k : Int)
theorem dnm_snoc (N : List ByteArray) (out : List Nat) (b : Nat) : dnm N (out ++ [b]) = dnm N out ++ [sx N (b : Int)] := by simp [dnm]
theorem dnm_length (N : List ByteArray) (out : List Nat) : (dnm N out).length = out.length := by simp [dnm]
theorem hasB_dnm (N : List ByteArray) (out : List Nat) (s : ByteArray) : hasB (dnm N out) s = inD (nm N) out s.toList := by
  unfold hasB inD dnm nm
  rw [List.any_map, List.any_map]
  rfl
theorem pOk_eq (N : List ByteArray) (I : List (List ByteArray)) (out : List Nat) (i : Nat) : pOk (nm N) (im I) out i = (!hasB (dnm N out) (sx N (i : Int)) && !((rd_L1 I (i : Int)).any fun s => !hasB (dnm N out) s)) := by
  unfold pOk im
  rw [hasB_dnm, List.any_map]
  congr 2
  rw [Bool.eq_iff_iff]
  simp only [List.any_eq_true]
  constructor
  · rintro ⟨x, hx, h⟩; exact ⟨x, hx, by rw [hasB_dnm]; exact h⟩
  · rintro ⟨x, hx, h⟩; exact ⟨x, hx, by rw [hasB_dnm] at h; exact h⟩
theorem own_C {W : World} {B : Nat} {A : Option Addr} {c : Nat} {l : List ByteArray} (h : W.ownsRow B 9 1 (.slice A l.length c) l.length (strs l)) : Kd.C Kd.string W A l.length l :=
  Kd.C_of_reads (d := ByteArray.empty) (h1 := fun _ => rfl) (own_reads_of' h)

/-- What Order answers. -/
def OrderPost (N : List ByteArray) (I : List (List ByteArray)) (w : World) (e : Ending) (w' : World) : Prop :=
  (∃ out A c, ord (pOk (nm N) (im I)) (ltN N) N.length N.length [] = some out ∧ out.length = N.length ∧ e = .returned (.tuple #[.slice A (oi out).length c, .int .i64 0]) ∧ w'.ownsRow w.heap.size 3 1 (.slice A (oi out).length c) (oi out).length (nums .i64 (oi out))) ∨
  (ord (pOk (nm N) (im I)) (ltN N) N.length N.length [] = none ∧ e = .returned (.tuple #[.slice none 0 0, .int .i64 8]))

set_option maxHeartbeats 4000000 in
set_option maxRecDepth 100000 in
theorem order_err (N : List ByteArray) (I : List (List ByteArray)) (A0 A1 : Option Addr) (c0 c1 : Nat) (w : World) (hl : ∀ l ∈ I, l.length < LIM) (hr0 : Kd.C Kd.string w A0 N.length N) (hc0 : N.length ≤ c0) (hr1 : Kd.C (Kd.slice 9 Kd.string) w A1 I.length I) (hc1 : I.length ≤ c1) (he : ¬ mErr N I = 0) :
    Calls Try.prog 6 #[.slice A0 N.length c0, .slice A1 I.length c1] w fun e w' => e = .returned (.tuple #[.slice none 0 0, .int .i64 (mErr N I)]) ∧ Below w.heap.size w w' := by
  have HC := Go.Lib.hid (check_calls N I A0 A1 c0 c1 w hl hr0 hc0 hr1 hc1)
  generalize mErr N I = er at *
  have e0 : (er == 0) = false := beq_eq_false_iff_ne.mpr he
  have e1 : (er != 0) = true := bne_iff_ne.mpr he
  clear he hl hr0 hr1
  go_enter Try.func6, Try.ntmps6
  go_wp2_with fail
  refine HC.out.mono ?_
  rintro e w1 ⟨rfl, hd⟩
  have HB := Go.Lib.hid hd.below
  clear hd
  go_wp2_with fail
  go_ret2
  exact ⟨rfl, HB.out⟩

/-- The rows of Order's loop. -/
structure Tri (w : World) (g : Nat) (vA : Value) (xa : List Int) (vB : Value) (xb : List ByteArray) (vx : Value) (W : World) : Prop where
  own3 : W.ownsRow w.heap.size 3 1 vA xa.length (nums .i64 xa)
  own9 : W.ownsRow w.heap.size 9 1 vB xb.length (strs xb)
  box : W.heap[g]? = some (.cells #[vx] 22 (0, 0))
  below : Below w.heap.size w W
theorem Tri.lift {w : World} {g : Nat} {vA : Value} {xa : List Int} {vB : Value} {xb : List ByteArray} {vx : Value} {W W' : World} (h : Tri w g vA xa vB xb vx W) (hb : Below W.heap.size W W') : Tri w g vA xa vB xb vx W' :=
  ⟨pw_own_below h.own3 hb, pw_own_below h.own9 hb, blk_below h.box hb, h.below.trans (hb.mono h.below.size)⟩
theorem Tri.alloc {w : World} {g : Nat} {vA : Value} {xa : List Int} {vB : Value} {xb : List ByteArray} {vx : Value} {W : World} (h : Tri w g vA xa vB xb vx W) (o : Obj) : Tri w g vA xa vB xb vx (W.alloc o) := h.lift (below_alloc (Below.refl _ _) o)
theorem Tri.drew {w : World} {g : Nat} {vA : Value} {xa : List Int} {vB : Value} {xb : List ByteArray} {vx : Value} {W : World} (h : Tri w g vA xa vB xb vx W) : Tri w g vA xa vB xb vx W.drew := h.lift (below_drew1 (Below.refl _ _))
theorem nw0 {W : World} {q t : Nat} {y : Value} (h : W.heap[q]? = some (.cells #[y] t (0, 0))) : ∀ j u, [y][j]? = some u → W.cell? ((⟨q, 0, none⟩ : Addr).add j) = some u := by
  intro j u hu
  rw [add_plain, blk_cell h j]
  simpa using hu
theorem bk1 (W : World) (y : Value) (t : Nat) : (W.alloc (.cells #[y] t)).drew.heap[W.heap.size]? = some (.cells #[y] t (0, 0)) := blk_new W _
theorem bk2 (W : World) (y : Value) (t : Nat) (o : Obj) : ((W.alloc (.cells #[y] t)).alloc o).drew.heap[W.heap.size]? = some (.cells #[y] t (0, 0)) := blk_alloc (blk_new W _) o
theorem bk3 (W : World) (y : Value) (t : Nat) (o : Obj) : ((W.alloc o).alloc (.cells #[y] t)).drew.heap[W.heap.size + 1]? = some (.cells #[y] t (0, 0)) := by
  show ((W.alloc o).alloc (.cells #[y] t)).heap[W.heap.size + 1]? = some (.cells #[y] t (0, 0))
  simpa using blk_new (W.alloc o) (.cells #[y] t)
theorem bk4 (W : World) (y : Value) (t : Nat) : (W.alloc (.cells #[y] t)).heap[W.heap.size]? = some (.cells #[y] t (0, 0)) := blk_new W _
/-- Cells in a world and in one with one block more. -/
def Cells2 (W : World) (g : Nat) (v : Value) (a : Addr) (u : Value) : Prop := (W.cell? ⟨g, 0, none⟩ = some v ∧ W.cell? a = some u ∧ W.frozen? ⟨g, 0, none⟩ = false) ∧ ∀ o, (W.alloc o).cell? ⟨g, 0, none⟩ = some v ∧ (W.alloc o).cell? a = some u
theorem Tri.cells {w : World} {g : Nat} {vA : Value} {xa : List Int} {vB : Value} {xb : List ByteArray} {vx : Value} {W : World} (h : Tri w g vA xa vB xb vx W) {a : Addr} {u : Value} (ha : w.cell? a = some u) : Cells2 W g vx a u :=
  ⟨⟨(blk_cell h.box 0).trans rfl, pw_cell_below h.below ha, blk_frozen h.box 0⟩, fun o => ⟨(blk_cell (h.alloc o).box 0).trans rfl, pw_cell_below (h.alloc o).below ha⟩⟩
theorem Tri.appA {w : World} {g : Nat} {vA v1 : Value} {xa : List Int} {vB : Value} {xb : List ByteArray} {vx : Value} {W W1 : World} {y : Int} (h : Tri w g vA xa vB xb vx W) (ho : W1.ownsRow w.heap.size 3 1 v1 (xa.length + 1) (nums .i64 xa ++ [.int .i64 y])) (hg : W.grownBy W1 vA.ownBlock) : Tri w g v1 (xa ++ [y]) vB xb vx W1 :=
  ⟨by rw [List.length_append, nums_append]; exact ho, own_other h.own9 hg (own_type_ne h.own9 h.own3 (by decide)), blk_grown h.box hg (own_ne h.own3 h.box (by decide)), h.below.grown hg h.below.size (own_base h.own3)⟩
theorem Tri.newsB {w : World} {g q : Nat} {vA : Value} {xa : List Int} {vB : Value} {xb : List ByteArray} {vx y : Value} {W W1 : World} (h : Tri w g vA xa vB xb vx W) (hg : W.grownBy W1 vA.ownBlock) (hb : W.heap[q]? = some (.cells #[y] 9 (0, 0))) : W1.heap[q]? = some (.cells #[y] 9 (0, 0)) :=
  blk_grown hb hg (own_ne h.own3 hb (by decide))
theorem Tri.appB {w : World} {g : Nat} {vA v1 : Value} {xa : List Int} {vB : Value} {xb : List ByteArray} {vx : Value} {W W1 : World} {y : ByteArray} (h : Tri w g vA xa vB xb vx W) (ho : W1.ownsRow w.heap.size 9 1 v1 (xb.length + 1) (strs xb ++ [.string y])) (hg : W.grownBy W1 vB.ownBlock) : Tri w g vA xa v1 (xb ++ [y]) vx W1 :=
  ⟨own_other h.own3 hg (own_type_ne h.own3 h.own9 (by decide)), by rw [List.length_append, strs, encs_append]; exact ho, blk_grown h.box hg (own_ne h.own9 h.box (by decide)), h.below.grown hg h.below.size (own_base h.own9)⟩
theorem Tri.store {w : World} {g : Nat} {vA : Value} {xa : List Int} {vB : Value} {xb : List ByteArray} {vx : Value} {W : World} (h : Tri w g vA xa vB xb vx W) (hg : w.heap.size ≤ g) (v : Value) : Tri w g vA xa vB xb v (W.setCell ⟨g, 0, none⟩ v) :=
  ⟨own_setCell (p := ⟨g, 0, none⟩) h.own3 (own_ne (g := g) (t := 22) h.own3 h.box (by decide)) _, own_setCell (p := ⟨g, 0, none⟩) h.own9 (own_ne (g := g) (t := 22) h.own9 h.box (by decide)) _, blk_put h.box 0 v rfl, h.below.setCell (p := ⟨g, 0, none⟩) hg _⟩

theorem round_rel {N : List ByteArray} {I : List (List ByteArray)} {w W : World} {g d bn g1 cap1 g2 cap2 : Nat} {out : List Nat} {xs : List Int} {dn : List ByteArray} {s : ByteArray} (hd : N.length = out.length + d + 1) (hxs : xs = oi out) (hdn : dn = dnm N out) (hnew : dnm N (out ++ [bn]) = dnm N out ++ [s]) (hord : ord (pOk (nm N) (im I)) (ltN N) N.length N.length [] = ord (pOk (nm N) (im I)) (ltN N) N.length d (out ++ [bn])) (hT : Tri w g (.slice (some ⟨g1, 0, none⟩) (xs.length + 1) cap1) (xs ++ [(bn : Int)]) (.slice (some ⟨g2, 0, none⟩) (dn.length + 1) cap2) (dn ++ [s]) (.slice (some ⟨g2, 0, none⟩) (dn.length + 1) cap2) W) :
    ∃ (out' : List Nat) (xs' : List Int) (A : Option Addr) (c : Nat) (dn' : List ByteArray) (A' : Option Addr) (c' : Nat), Hid (out'.length + d = N.length) ∧ Value.slice (some ⟨g1, 0, none⟩) (xs.length + 1) cap1 = .slice A xs'.length c ∧ Hid (xs' = oi out') ∧ Hid (dn' = dnm N out') ∧ Hid (Tri w g (.slice A xs'.length c) xs' (.slice A' dn'.length c') dn' (.slice A' dn'.length c') W) ∧ Hid (ord (pOk (nm N) (im I)) (ltN N) N.length N.length [] = ord (pOk (nm N) (im I)) (ltN N) N.length (N.length - out'.length) out') := by
  have e1 : (xs ++ [(bn : Int)]).length = xs.length + 1 := by simp
  have e2 : (dn ++ [s]).length = dn.length + 1 := by simp
  refine ⟨out ++ [bn], xs ++ [(bn : Int)], some ⟨g1, 0, none⟩, cap1, dn ++ [s], some ⟨g2, 0, none⟩, cap2, Go.Lib.hid (by simp; omega), by rw [e1], Go.Lib.hid (by rw [hxs, oi_snoc]), Go.Lib.hid (by rw [hdn, hnew]), Go.Lib.hid ?_, Go.Lib.hid ?_⟩
  · rw [e1, e2]; exact hT
  · rw [hord, List.length_append, List.length_singleton, show N.length - (out.length + 1) = d by omega]

set_option maxHeartbeats 16000000 in
set_option maxRecDepth 100000 in
theorem order_ok (N : List ByteArray) (I : List (List ByteArray)) (A0 A1 : Option Addr) (c0 c1 : Nat) (w : World) (hN : N.length ≤ 16) (hI : I.length = N.length) (hl : ∀ l ∈ I, l.length < LIM) (hr0 : Kd.C Kd.string w A0 N.length N) (hc0 : N.length ≤ c0) (hr1 : Kd.C (Kd.slice 9 Kd.string) w A1 I.length I) (hc1 : I.length ≤ c1) (he : mErr N I = 0) :
    Calls Try.prog 6 #[.slice A0 N.length c0, .slice A1 I.length c1] w fun e w' => OrderPost N I w e w' ∧ Below w.heap.size w w' := by
  have HC := Go.Lib.hid (check_calls N I A0 A1 c0 c1 w hl hr0 hc0 hr1 hc1)
  have HR0 := Go.Lib.hid hr0
  have HR1 := Go.Lib.hid hr1
  have HI := Go.Lib.hid hI
  have HL := Go.Lib.hid hl
  have HE := Go.Lib.hid he
  have hn : (N.length : Int) ≤ 16 := by omega
  have hn0 : (0 : Int) ≤ (N.length : Int) := by omega
  clear hl hr0 hr1 hI he
  go_enter Try.func6, Try.ntmps6
  go_wp2_with fail
  refine HC.out.mono ?_
  rintro e w1 ⟨rfl, hd⟩
  rw [HE.out]
  have hgs := Go.Lib.hid hd.below.size
  have hT0 := Go.Lib.hid (show Tri w w1.heap.size (.slice none 0 0) [] (.slice none 0 0) [] (.slice none 0 0) (w1.alloc (.cells #[.slice none 0 0] 22)) from ⟨own_nil _ _ _ _, own_nil _ _ _ _, blk_new _ _, below_alloc hd.below _⟩)
  clear hd
  go_wp2_with fail
  generalize w1.alloc (.cells #[.slice none 0 0] 22) = w2 at *
  generalize w1.heap.size = g at *
  go_loopg [7] N.length (fun k v7 wr => ∃ (out : List Nat) (xs : List Int) (A : Option Addr) (c : Nat) (dn : List ByteArray) (A' : Option Addr) (c' : Nat), Hid (out.length + k = N.length) ∧ v7 = .slice A xs.length c ∧ Hid (xs = oi out) ∧ Hid (dn = dnm N out) ∧ Hid (Tri w g (.slice A xs.length c) xs (.slice A' dn.length c') dn (.slice A' dn.length c') wr) ∧ Hid (ord (pOk (nm N) (im I)) (ltN N) N.length N.length [] = ord (pOk (nm N) (im I)) (ltN N) N.length (N.length - out.length) out))
  case atStart => exact ⟨[], [], none, 0, [], none, 0, Go.Lib.hid (by simp), rfl, Go.Lib.hid rfl, Go.Lib.hid rfl, hT0, Go.Lib.hid (by simp)⟩
  case round =>
    clear hT0
    obtain ⟨out, xs, A, c, dn, A', c', ho, rfl, hxs, hdn, hT, hord⟩ := hrel
    have hxl := Go.Lib.hid (show xs.length = out.length by rw [hxs.out, oi_length])
    have hdl := Go.Lib.hid (show dn.length = out.length by rw [hdn.out, dnm_length])
    by_cases hlt : out.length < N.length
    · have hlt' : (xs.length : Int) < (N.length : Int) := by have := hxl.out; omega
      have HLT := Go.Lib.hid hlt
      clear hlt
      go_wp2_with fail
      obtain ⟨wm, hwm⟩ : ∃ wm : World, wm = wr := ⟨_, rfl⟩
      go_loopg [9, 26] N.length (fun k v9 v26 wr => ∃ (i : Nat) (best : Int), Hid (i + k = N.length) ∧ v26 = .int .i64 i ∧ v9 = .int .i64 best ∧ Hid (best = bestK (pOk (nm N) (im I) out) (ltN N) i) ∧ Hid (Drawn0 wm wr))
      case atStart => exact ⟨0, -1, Go.Lib.hid (by omega), rfl, rfl, Go.Lib.hid rfl, Go.Lib.hid (by rw [hwm]; exact Drawn0.refl _)⟩
      case round =>
        subst hwm
        obtain ⟨i, best, hi, rfl, rfl, hbest, hdr⟩ := hrel
        by_cases hli : i < N.length
        · have hli' : (i : Int) < (N.length : Int) := by omega
          have hiI : (i : Int) < (I.length : Int) := by have := HI.out; omega
          have HLI := Go.Lib.hid hli
          have hTr := Go.Lib.hid (hT.out.lift hdr.out.below)
          obtain ⟨ad0, rfl, x0⟩ := at_S (Kd.C_below HR0.out hTr.out.below) hli
          obtain ⟨ad1, A2, c2, rfl, x1, hc2, hC2⟩ := at_L1 (Kd.C_below HR1.out hTr.out.below) (i : Int) (by omega) hiI
          rw [Int.toNat_natCast] at x1
          have bx : wr.cell? ⟨g, 0, none⟩ = some (.slice A' dn.length c') := (blk_cell hTr.out.box 0).trans rfl
          have hdcap := own_cap hTr.out.own9
          have hdlim : dn.length < LIM := by have := hdl.out; have := HLT.out; unfold LIM; omega
          have hcon := Go.Lib.hid (contains_calls dn (sx N (i : Int)) A' c' wr hdlim (own_C hTr.out.own9) hdcap)
          have hme : rd_L1 I (i : Int) ∈ I := by rw [rd_L1_get (by omega)]; exact List.getElem_mem _
          have hfun := Go.Lib.hid (fun (W : World) (hW : Drawn0 wr W) => containsFunc_calls (rd_L1 I (i : Int)) (fun s => !hasB dn s) g W A2 c2 (HL.out _ hme) (Kd.C_below hC2 hW.below) (closure19 dn A' c' g W hdlim hdcap (pw_cell_below hW.below bx) (Kd.C_below (own_C hTr.out.own9) hW.below)))
          have hpo := Go.Lib.hid (show pOk (nm N) (im I) out i = (!hasB dn (sx N (i : Int)) && !((rd_L1 I (i : Int)).any fun s => !hasB dn s)) by rw [hdn.out]; exact pOk_eq N I out i)
          have hltv := Go.Lib.hid (show ∀ bn, ltN N i bn = Op.bytesLess (sx N (i : Int)).toList (sx N (bn : Int)).toList from fun bn => rfl)
          have hbd := Go.Lib.hid (bestK_lt (pOk (nm N) (im I) out) (ltN N) i)
          generalize hs1 : sx N (i : Int) = s1 at *
          generalize rd_L1 I (i : Int) = l at *
          generalize hasB dn s1 = b1 at hcon hpo
          generalize (l.any fun s => !hasB dn s) = b2 at hfun hpo
          have hsu := Go.Lib.hid (show bestK (pOk (nm N) (im I) out) (ltN N) (i + 1) = if (!b1 && !b2) && (decide (best < 0) || ltN N i best.toNat) then (i : Int) else best by rw [bestK, hpo.out, ← hbest.out])
          clear hli hC2 hme hs1 hdcap hdlim
          go_wp2_with fail
          refine hcon.out.mono ?_
          rintro e w5 ⟨rfl, hd5⟩
          have D5 := Go.Lib.hid hd5
          have y1 := pw_cell_below hd5.below x1
          clear hd5 x1
          cases b1
          · go_wp2_with fail
            refine (hfun.out _ D5.out).mono ?_
            rintro e w6 ⟨rfl, hd6⟩
            have D6 := Go.Lib.hid (drawn_trans D5.out hd6)
            have D7 := Go.Lib.hid (drawn_trans hdr.out D6.out)
            clear hd6 y1
            cases b2
            · by_cases hb0 : best < 0
              · have d0 : decide (best < 0) = true := decide_eq_true hb0
                have hnx := Go.Lib.hid (show (i : Int) = bestK (pOk (nm N) (im I) out) (ltN N) (i + 1) by rw [hsu.out, d0]; rfl)
                clear hb0
                go_wp2_with fail
                go_roundg (gk - 1)
                case measure => have := hi.out; have := HLI.out; omega
                case rel => exact ⟨i + 1, _, Go.Lib.hid (by have := hi.out; have := HLI.out; omega), by go_num, rfl, hnx, D7⟩
              · obtain ⟨bn, rfl⟩ : ∃ bn : Nat, best = (bn : Int) := ⟨best.toNat, by omega⟩
                have hbn : bn < N.length := by have h := hbd.out.2.1; rw [← hbest.out] at h; have := HLI.out; omega
                have hbn' : (bn : Int) < (N.length : Int) := by omega
                have d0 : decide ((bn : Int) < 0) = false := decide_eq_false hb0
                obtain ⟨ad', hade, n2⟩ := at_S (Kd.C_below HR0.out hTr.out.below) hbn
                obtain rfl := Option.some.inj hade
                replace n2 := pw_cell_below D6.out.below n2
                have hlv := Go.Lib.hid (hltv.out bn)
                generalize sx N (bn : Int) = s2 at *
                clear hade
                by_cases hl2 : Op.bytesLess s1.toList s2.toList = true
                · have hnx := Go.Lib.hid (show (i : Int) = bestK (pOk (nm N) (im I) out) (ltN N) (i + 1) by rw [hsu.out, Int.toNat_natCast, hlv.out, hl2]; simp)
                  clear hb0 hbn
                  go_wp2_with fail
                  go_roundg (gk - 1)
                  case measure => have := hi.out; have := HLI.out; omega
                  case rel => exact ⟨i + 1, _, Go.Lib.hid (by have := hi.out; have := HLI.out; omega), by go_num, rfl, hnx, D7⟩
                · have hl3 : Op.bytesLess s1.toList s2.toList = false := by simpa using hl2
                  have hnx := Go.Lib.hid (show (bn : Int) = bestK (pOk (nm N) (im I) out) (ltN N) (i + 1) by rw [hsu.out, Int.toNat_natCast, hlv.out, hl3, d0]; rfl)
                  clear hb0 hbn hl2
                  go_wp2_with fail
                  go_roundg (gk - 1)
                  case measure => have := hi.out; have := HLI.out; omega
                  case rel => exact ⟨i + 1, _, Go.Lib.hid (by have := hi.out; have := HLI.out; omega), by go_num, rfl, hnx, D7⟩
            · have hnx := Go.Lib.hid (show best = bestK (pOk (nm N) (im I) out) (ltN N) (i + 1) by rw [hsu.out]; rfl)
              go_wp2_with fail
              go_roundg (gk - 1)
              case measure => have := hi.out; have := HLI.out; omega
              case rel => exact ⟨i + 1, _, Go.Lib.hid (by have := hi.out; have := HLI.out; omega), by go_num, rfl, hnx, D7⟩
          · have hnx := Go.Lib.hid (show best = bestK (pOk (nm N) (im I) out) (ltN N) (i + 1) by rw [hsu.out]; rfl)
            have D7 := Go.Lib.hid (drawn_trans hdr.out D5.out)
            go_wp2_with fail
            go_roundg (gk - 1)
            case measure => have := hi.out; have := HLI.out; omega
            case rel => exact ⟨i + 1, _, Go.Lib.hid (by have := hi.out; have := HLI.out; omega), by go_num, rfl, hnx, D7⟩
        · have hli' : ¬ (i : Int) < (N.length : Int) := by omega
          have hbf := Go.Lib.hid (show best = bestK (pOk (nm N) (im I) out) (ltN N) N.length by rw [hbest.out, show i = N.length by have := hi.out; omega])
          have hTr := Go.Lib.hid (hT.out.lift hdr.out.below)
          clear hli hbest
          obtain ⟨d, hd⟩ : ∃ d, N.length = out.length + d + 1 := ⟨N.length - out.length - 1, by have := HLT.out; omega⟩
          have hord2 := Go.Lib.hid (show ord (pOk (nm N) (im I)) (ltN N) N.length N.length [] = if best < 0 then none else ord (pOk (nm N) (im I)) (ltN N) N.length d (out ++ [best.toNat]) by
            rw [hord.out, hbf.out, show N.length - out.length = d + 1 by omega]; rfl)
          have HDD := Go.Lib.hid hd
          clear hd
          by_cases hb0 : best < 0
          · have d0 : decide (best < 0) = true := decide_eq_true hb0
            have hno := Go.Lib.hid (show ord (pOk (nm N) (im I)) (ltN N) N.length N.length [] = none by rw [hord2.out, if_pos hb0])
            clear hb0
            go_wp2_with fail
            go_ret2
            exact ⟨.inr ⟨hno.out, rfl⟩, hTr.out.below⟩
          · obtain ⟨bn, rfl⟩ : ∃ bn : Nat, best = (bn : Int) := ⟨best.toNat, by omega⟩
            have d0 : decide ((bn : Int) < 0) = false := decide_eq_false hb0
            have hbn : bn < N.length := by have h := (bestK_lt (pOk (nm N) (im I) out) (ltN N) N.length).2.1; rw [← hbf.out] at h; omega
            have hbn' : (bn : Int) < (N.length : Int) := by omega
            have hord3 := Go.Lib.hid (show ord (pOk (nm N) (im I)) (ltN N) N.length N.length [] = ord (pOk (nm N) (im I)) (ltN N) N.length d (out ++ [bn]) by rw [hord2.out, if_neg hb0, Int.toNat_natCast])
            obtain ⟨ad, rfl, n1⟩ := at_S HR0.out hbn
            have hnew := Go.Lib.hid (dnm_snoc N out bn)
            generalize sx N (bn : Int) = s at *
            have hxl2 : (xs.length : Int) ≤ 16 := by have := hxl.out; have := HLT.out; omega
            have hdl2 : dn.length ≤ 16 := by have := hdl.out; have := HLT.out; omega
            clear hb0 hbn
            go_wp2_with fail
            have HNM := Go.Lib.hid n1
            obtain ⟨⟨m0, m1, m2⟩, m3⟩ := hTr.out.drew.cells n1
            have m4 := fun o => (m3 o).1
            have m5 := fun o => (m3 o).2
            have m6 := fun o o' => ((hTr.out.alloc o).cells n1).2 o' |>.1
            have m7 := fun o o' => ((hTr.out.alloc o).cells n1).2 o' |>.2
            have m8 := fun o => (hTr.out.cells n1).2 o |>.1
            have m9 := fun o => (hTr.out.cells n1).2 o |>.2
            obtain ⟨i3, hi3, hz3, hs3, hb3⟩ := info_parts inf3
            obtain ⟨i9, hi9, hz9, hs9, hb9⟩ := info_parts info9
            clear m3 n1
            go_region_law (first | (refine step_append_lies _ rfl (.tmp 61) (.tmp 63) 24 rfl w.heap.size 3 i3 (.int .i64 0) 1 8 Try.underlying24 hi3 hz3 hs3 hb3 rfl ?a0 (.slice A xs.length c) xs.length (nums .i64 xs) ?a1 ((hTr.out.alloc _).drew).own3 ⟨wr.heap.size, 0, none⟩ 1 1 [.int .i64 (bn : Int)] ?a2 rfl (nw0 (bk1 _ _ _)) (fun u hu => by rw [List.mem_singleton.1 hu]; rfl) ?a3 ?a4 ?a5 ?a6 _ rfl (fun g1 cap1 w7 hown7 hg7 hat7 hlt7 => ?_); (case a0 => decide); (case a1 => simp [Act.eval, Act.put]); (case a2 => simp [Act.eval, Act.put]); (case a3 => decide); (case a4 => unfold maxLen; omega); (case a5 => omega); (case a6 => exact ((hTr.out.alloc _).drew).below.size); have HT1 := Go.Lib.hid (((hTr.out.alloc _).drew).appA (y := (bn : Int)) hown7 hg7); have HC1 := HT1.out.cells HNM.out; obtain ⟨⟨m0, m1, m2⟩, m3⟩ := HC1; have m4 := fun o => (m3 o).1; have m5 := fun o => (m3 o).2; clear m3 hown7 hg7 hat7 hlt7) | (refine step_append_lies _ rfl (.tmp 61) (.tmp 63) 24 rfl w.heap.size 3 i3 (.int .i64 0) 1 8 Try.underlying24 hi3 hz3 hs3 hb3 rfl ?a0 (.slice A xs.length c) xs.length (nums .i64 xs) ?a1 (((hTr.out.alloc _).alloc _).drew).own3 ⟨wr.heap.size, 0, none⟩ 1 1 [.int .i64 (bn : Int)] ?a2 rfl (nw0 (bk2 _ _ _ _)) (fun u hu => by rw [List.mem_singleton.1 hu]; rfl) ?a3 ?a4 ?a5 ?a6 _ rfl (fun g1 cap1 w7 hown7 hg7 hat7 hlt7 => ?_); (case a0 => decide); (case a1 => simp [Act.eval, Act.put]); (case a2 => simp [Act.eval, Act.put]); (case a3 => decide); (case a4 => unfold maxLen; omega); (case a5 => omega); (case a6 => exact (((hTr.out.alloc _).alloc _).drew).below.size); have HT1 := Go.Lib.hid ((((hTr.out.alloc _).alloc _).drew).appA (y := (bn : Int)) hown7 hg7); have HNB := Go.Lib.hid (Tri.newsB (((hTr.out.alloc _).alloc _).drew) hg7 (bk3 wr (.string s) 9 _)); have HC1 := HT1.out.cells HNM.out; obtain ⟨⟨m0, m1, m2⟩, m3⟩ := HC1; have m4 := fun o => (m3 o).1; have m5 := fun o => (m3 o).2; clear m3 hown7 hg7 hat7 hlt7) | (refine step_append_lies _ rfl (.tmp 61) (.tmp 63) 24 rfl w.heap.size 3 i3 (.int .i64 0) 1 8 Try.underlying24 hi3 hz3 hs3 hb3 rfl ?a0 (.slice A xs.length c) xs.length (nums .i64 xs) ?a1 (((hTr.out.alloc _).alloc _).drew).own3 ⟨wr.heap.size + 1, 0, none⟩ 1 1 [.int .i64 (bn : Int)] ?a2 rfl (nw0 (bk3 _ _ _ _)) (fun u hu => by rw [List.mem_singleton.1 hu]; rfl) ?a3 ?a4 ?a5 ?a6 _ rfl (fun g1 cap1 w7 hown7 hg7 hat7 hlt7 => ?_); (case a0 => decide); (case a1 => simp [Act.eval, Act.put]); (case a2 => simp [Act.eval, Act.put]); (case a3 => decide); (case a4 => unfold maxLen; omega); (case a5 => omega); (case a6 => exact (((hTr.out.alloc _).alloc _).drew).below.size); have HT1 := Go.Lib.hid ((((hTr.out.alloc _).alloc _).drew).appA (y := (bn : Int)) hown7 hg7); have HNB := Go.Lib.hid (Tri.newsB (((hTr.out.alloc _).alloc _).drew) hg7 (bk2 wr (.string s) 9 _)); have HC1 := HT1.out.cells HNM.out; obtain ⟨⟨m0, m1, m2⟩, m3⟩ := HC1; have m4 := fun o => (m3 o).1; have m5 := fun o => (m3 o).2; clear m3 hown7 hg7 hat7 hlt7) | (refine step_append_lies _ rfl (.tmp 65) (.tmp 70) 22 rfl w.heap.size 9 i9 (.string ⟨#[]⟩) 1 16 Try.underlying22 hi9 hz9 hs9 hb9 rfl ?a0 (.slice A' dn.length c') dn.length (strs dn) ?a1 (HT1.out.alloc _).own9 ⟨w7.heap.size, 0, none⟩ 1 1 [.string s] ?a2 rfl (nw0 (bk4 _ _ _)) (fun u hu => by rw [List.mem_singleton.1 hu]; rfl) ?a3 ?a4 ?a5 ?a6 _ rfl (fun g2 cap2 w8 hown8 hg8 hat8 hlt8 => ?_); (case a0 => decide); (case a1 => simp [Act.eval, Act.put]); (case a2 => simp [Act.eval, Act.put]); (case a3 => decide); (case a4 => unfold maxLen; omega); (case a5 => omega); (case a6 => exact (HT1.out.alloc _).below.size); have HT2 := Go.Lib.hid ((HT1.out.alloc _).appB (y := s) hown8 hg8); clear m0 m1 m2 m4 m5; have HC2 := HT2.out.cells HNM.out; obtain ⟨⟨m0, m1, m2⟩, m3⟩ := HC2; clear m3 hown8 hg8 hat8 hlt8) | (refine step_append_lies _ rfl (.tmp 65) (.tmp 70) 22 rfl w.heap.size 9 i9 (.string ⟨#[]⟩) 1 16 Try.underlying22 hi9 hz9 hs9 hb9 rfl ?a0 (.slice A' dn.length c') dn.length (strs dn) ?a1 HT1.out.own9 ⟨wr.heap.size + 1, 0, none⟩ 1 1 [.string s] ?a2 rfl (nw0 HNB.out) (fun u hu => by rw [List.mem_singleton.1 hu]; rfl) ?a3 ?a4 ?a5 ?a6 _ rfl (fun g2 cap2 w8 hown8 hg8 hat8 hlt8 => ?_); (case a0 => decide); (case a1 => simp [Act.eval, Act.put]); (case a2 => simp [Act.eval, Act.put]); (case a3 => decide); (case a4 => unfold maxLen; omega); (case a5 => omega); (case a6 => exact HT1.out.below.size); have HT2 := Go.Lib.hid (HT1.out.appB (y := s) hown8 hg8); clear m0 m1 m2 m4 m5; have HC2 := HT2.out.cells HNM.out; obtain ⟨⟨m0, m1, m2⟩, m3⟩ := HC2; clear m3 hown8 hg8 hat8 hlt8) | (refine step_append_lies _ rfl (.tmp 65) (.tmp 70) 22 rfl w.heap.size 9 i9 (.string ⟨#[]⟩) 1 16 Try.underlying22 hi9 hz9 hs9 hb9 rfl ?a0 (.slice A' dn.length c') dn.length (strs dn) ?a1 HT1.out.own9 ⟨wr.heap.size, 0, none⟩ 1 1 [.string s] ?a2 rfl (nw0 HNB.out) (fun u hu => by rw [List.mem_singleton.1 hu]; rfl) ?a3 ?a4 ?a5 ?a6 _ rfl (fun g2 cap2 w8 hown8 hg8 hat8 hlt8 => ?_); (case a0 => decide); (case a1 => simp [Act.eval, Act.put]); (case a2 => simp [Act.eval, Act.put]); (case a3 => decide); (case a4 => unfold maxLen; omega); (case a5 => omega); (case a6 => exact HT1.out.below.size); have HT2 := Go.Lib.hid (HT1.out.appB (y := s) hown8 hg8); clear m0 m1 m2 m4 m5; have HC2 := HT2.out.cells HNM.out; obtain ⟨⟨m0, m1, m2⟩, m3⟩ := HC2; clear m3 hown8 hg8 hat8 hlt8))
            all_goals
              have HF := Go.Lib.hid (HT2.out.store hgs.out (Value.slice (some { block := g2, off := 0 }) (dn.length + 1) cap2))
              clear m0 m1 m2 HNM m6 m7 m8 m9 hi3 hz3 hs3 hb3 hi9 hz9 hs9 hb9 HE HI HL HR0 HR1 HC HT2 hTr hT
              try clear m4
              try clear m5
              try clear HT1
              try clear HNB
              generalize w8.setCell _ _ = w9 at *
              go_wp2_with fail
              go_roundg d
              case measure => have := ho.out; have := HDD.out; omega
              case rel => exact round_rel HDD.out hxs.out hdn.out hnew.out hord3.out HF.out
    · have hlt' : ¬ (xs.length : Int) < (N.length : Int) := by have := hxl.out; omega
      have hfin := Go.Lib.hid (show ord (pOk (nm N) (im I)) (ltN N) N.length N.length [] = some out ∧ out.length = N.length by
        have h1 := ho.out
        refine ⟨?_, by omega⟩
        rw [hord.out, show N.length - out.length = 0 by omega]; rfl)
      clear hlt
      go_wp2_with fail
      go_ret2
      have h3 := hT.out.own3
      rw [hxs.out] at h3
      exact ⟨.inl ⟨out, A, c, hfin.out.1, hfin.out.2, by rw [hxs.out]; rfl, h3⟩, hT.out.below⟩
end Go.Proofs.Ytdobkkoonamocaa.Mo
