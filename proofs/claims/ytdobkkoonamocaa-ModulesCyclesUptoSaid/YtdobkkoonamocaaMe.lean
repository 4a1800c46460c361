import Derived.Test.YtdobkkoonamocaaMd
namespace Go.Proofs.Ytdobkkoonamocaa.Mo
open Go.RowKit Go.Proofs.Ytdobkkoonamocaa.PModulesOrdered Go.Proofs.YtdobkkoonamocaaW.PrintWords Go.Proofs.YtdobkkoonamocaaW.PrintLast Go.Proofs.YtdobkkoonamocaaW.PrintMore
set_option linter.unusedVariables false
set_option linter.unusedSimpArgs false

theorem inf3 : (Try.prog.info? 3).map (fun i => (i.zero, i.size, i.bytes)) = some (some (.int .i64 0), 1, 8) := by kernel_rfl
def oi (out : List Nat) : List Int := out.map Int.ofNat
theorem oi_length (out : List Nat) : (oi out).length = out.length := by simp [oi]
theorem oi_snoc (out : List Nat) (b : Nat) : oi (out ++ [b]) = oi out ++ [(b : Int)] := by simp [oi]
/-- One name is less than another. -/
def ltN (N : List ByteArray) (i j : Nat) : Bool := Op.bytesLess (sx N (i : Int)).toList (sx N (j : Int)).toList

section
variable {w w' : World} {b t n : Nat} {f : Nat → Value}
theorem rowIs_blk (h : w.rowIs b t n f) : ∃ cs, w.heap[b]? = some (.cells cs t (0, 0)) := by
  obtain ⟨cs, h, _⟩ := h
  exact ⟨cs, h⟩
theorem rowIs_grown {base e size m : Nat} {v : Value} {xs : List Value} (h : w.rowIs b t n f) (ho : w.ownsRow base e size v m xs) (hne : e ≠ t) (hg : w.grownBy w' v.ownBlock) : w'.rowIs b t n f := by
  obtain ⟨cs, hc⟩ := rowIs_blk h
  exact h.of_block (hg.block b h.lt (own_ne ho hc hne))
theorem rowIs_below (h : w.rowIs b t n f) (hb : Below w.heap.size w w') : w'.rowIs b t n f := h.of_block (hb.block b h.lt)
end
section
variable {w w' : World} {B mb n k : Nat} {rb : Nat → Nat} {M : Nat → Nat → Bool}
theorem Mtx.grown {base size m : Nat} {v : Value} {xs : List Value} (h : Mtx w B mb n k rb M) (ho : w.ownsRow base 3 size v m xs) (hg : w.grownBy w' v.ownBlock) : Mtx w' B mb n k rb M :=
  ⟨rowIs_grown h.outer ho (by decide) hg, fun i hi => ⟨rowIs_grown (h.inner i hi).1 ho (by decide) hg, (h.inner i hi).2⟩, h.inj, h.base⟩
theorem Mtx.far (h : Mtx w B mb n k rb M) {g j : Nat} (h1 : mb ≠ g) (h2 : ∀ i, i < k → rb i ≠ g) (v : Value) : Mtx (w.setCell ⟨g, j, none⟩ v) B mb n k rb M :=
  ⟨h.outer.setOther (a := ⟨g, j, none⟩) h1 v, fun i hi => ⟨(h.inner i hi).1.setOther (a := ⟨g, j, none⟩) (h2 i hi) v, (h.inner i hi).2⟩, h.inj, h.base⟩
end

/-- The reference's test as far as j. -/
def rOkJ (n : Nat) (M : Nat → Nat → Bool) (out : List Nat) (i j : Nat) : Bool := !out.contains i && (List.range j).all fun j => !(M i j && (!out.contains j || i == j))
theorem rOkJ_succ (n : Nat) (M : Nat → Nat → Bool) (out : List Nat) (i j : Nat) : rOkJ n M out i (j + 1) = (rOkJ n M out i j && !(M i j && (!out.contains j || i == j))) := by
  unfold rOkJ
  rw [List.range_succ, List.all_append]
  simp [Bool.and_assoc]
theorem rOkJ_zero (n : Nat) (M : Nat → Nat → Bool) (out : List Nat) (i : Nat) : rOkJ n M out i 0 = !out.contains i := by simp [rOkJ]
theorem rOkJ_n (n : Nat) (M : Nat → Nat → Bool) (out : List Nat) (i : Nat) : rOkJ n M out i n = rOk n M out i := rfl

/-- What ModuleOrder answers. -/
def OrdPost (N : List ByteArray) (I : List (List ByteArray)) (w : World) (e : Ending) (w' : World) : Prop :=
  ∃ M, MatOk N.length (nm N) (im I) M ∧ ((∃ out A c, ord (rOk N.length M) (ltN N) N.length N.length [] = some out ∧ out.length = N.length ∧ e = .returned (.slice A (oi out).length c) ∧ w'.ownsRow w.heap.size 3 1 (.slice A (oi out).length c) (oi out).length (nums .i64 (oi out))) ∨
    (ord (rOk N.length M) (ltN N) N.length N.length [] = none ∧ e = .returned (.slice none 0 0)))

set_option maxHeartbeats 16000000 in
set_option maxRecDepth 100000 in
theorem order_calls (N : List ByteArray) (I : List (List ByteArray)) (A0 A1 : Option Addr) (c0 c1 : Nat) (w : World) (hN : N.length ≤ 16) (hI : I.length = N.length) (hl : ∀ l ∈ I, l.length < LIM) (hr0 : Kd.C Kd.string w A0 N.length N) (hc0 : N.length ≤ c0) (hr1 : Kd.C (Kd.slice 9 Kd.string) w A1 I.length I) (hc1 : I.length ≤ c1) :
    Calls Try.prog 10 #[.slice A0 N.length c0, .slice A1 I.length c1] w fun e w' => OrdPost N I w e w' ∧ Below w.heap.size w w' := by
  have HR0 := Go.Lib.hid hr0
  have HC := Go.Lib.hid (reaches_calls N I A0 A1 c0 c1 w hN hI hl hr0 hc0 hr1 hc1)
  have hn : (N.length : Int) ≤ 16 := by omega
  have hn0 : (0 : Int) ≤ (N.length : Int) := by omega
  have hm2 := print_make_of (P := Try.prog) 37 4 (.bool false) 1 Try.underlying37 inf4 rfl (by decide) N.length (by omega)
  clear hr0 hr1 hl hI
  go_enter Try.func10, Try.ntmps10
  go_wp2_with fail
  refine HC.out.mono ?_
  rintro e w1 ⟨⟨mb, rb, M, rfl, hM, hMat⟩, hb1⟩
  have HMat := Go.Lib.hid hMat
  have hub := Go.Lib.hid ((World.rowIs_made w1 (.bool false) N.length 4).congr (g := fun j => .bool (([] : List Nat).contains j)) fun i _ => rfl)
  have hM1 := Go.Lib.hid (hM.below (below_alloc (Below.refl w1.heap.size w1) (.cells (madeCells #[.bool false] N.length) 4)))
  have hfar := Go.Lib.hid (show mb ≠ w1.heap.size ∧ ∀ i, i < N.length → rb i ≠ w1.heap.size from ⟨fun e => by have := hM.outer.lt; omega, fun i hi e => by have := (hM.inner i hi).1.lt; omega⟩)
  have hB1 := Go.Lib.hid (below_alloc hb1 (.cells (madeCells #[.bool false] N.length) 4))
  have hbs := Go.Lib.hid hb1.size
  clear hMat hM hb1
  go_wp2_with fail
  generalize w1.alloc (.cells (madeCells #[.bool false] N.length) 4) = w2 at *
  generalize w1.heap.size = ub at *
  go_loopg [6, 20] N.length (fun k v6 v20 wr => ∃ (out : List Nat) (xs : List Int) (A : Option Addr) (c : Nat), Hid (out.length + k = N.length) ∧ v20 = .int .i64 out.length ∧ v6 = .slice A xs.length c ∧ Hid (xs = oi out) ∧ Hid (wr.ownsRow w.heap.size 3 1 (.slice A xs.length c) xs.length (nums .i64 xs)) ∧ Hid (wr.rowIs ub 4 N.length fun j => .bool (out.contains j)) ∧ Hid (Mtx wr w.heap.size mb N.length N.length rb M) ∧ Hid (ord (rOk N.length M) (ltN N) N.length N.length [] = ord (rOk N.length M) (ltN N) N.length (N.length - out.length) out) ∧ Hid (Below w.heap.size w wr))
  case atStart => exact ⟨[], [], none, 0, Go.Lib.hid (by simp), rfl, rfl, Go.Lib.hid rfl, Go.Lib.hid (own_nil _ _ _ _), hub, hM1, Go.Lib.hid (by simp), hB1⟩
  case round =>
    clear hub hM1 hB1
    obtain ⟨out, xs, A, c, ho, rfl, rfl, hxs, hown, hub, hM, hord, hb⟩ := hrel
    by_cases hlt : out.length < N.length
    · have hlt' : (out.length : Int) < (N.length : Int) := by omega
      have HLT := Go.Lib.hid hlt
      clear hlt
      go_wp2_with fail
      obtain ⟨wm, hwm⟩ : ∃ wm : World, wm = wr := ⟨_, rfl⟩
      go_loopg [8, 24] N.length (fun k v8 v24 wr => ∃ (i : Nat) (best : Int), Hid (i + k = N.length) ∧ v24 = .int .i64 i ∧ v8 = .int .i64 best ∧ Hid (best = bestK (rOk N.length M out) (ltN N) i) ∧ Hid (Drawn0 wm wr))
      case atStart => exact ⟨0, -1, Go.Lib.hid (by omega), rfl, rfl, Go.Lib.hid rfl, Go.Lib.hid (by rw [hwm]; exact Drawn0.refl _)⟩
      case round =>
        subst hwm
        obtain ⟨i, best, hi, rfl, rfl, hbest, hdr⟩ := hrel
        by_cases hli : i < N.length
        · have hli' : (i : Int) < (N.length : Int) := by omega
          have HLI := Go.Lib.hid hli
          have hu0 := (rowIs_below hub.out hdr.out.below).cell hli
          clear hli
          generalize hci : out.contains i = ci at hu0
          have HCI := Go.Lib.hid hci
          clear hci
          go_wp2_with fail
          go_loopg [10, 34] N.length (fun k v10 v34 wr' => ∃ (j : Nat) (ok : Bool), Hid (j + k = N.length) ∧ v34 = .int .i64 j ∧ v10 = .bool ok ∧ Hid (ok = rOkJ N.length M out i j) ∧ Hid (Drawn0 wm wr'))
          case atStart => exact ⟨0, _, Go.Lib.hid (by omega), rfl, rfl, Go.Lib.hid (by rw [rOkJ_zero, HCI.out]), hdr⟩
          case round =>
            clear hu0 hdr HCI
            obtain ⟨j, ok, hj, rfl, rfl, hok, hdr⟩ := hrel
            by_cases hlj : j < N.length
            · have hlj' : (j : Int) < (N.length : Int) := by omega
              have HLJ := Go.Lib.hid hlj
              have hMr := Go.Lib.hid (hM.out.below hdr.out.below)
              have r1 := hMr.out.row HLI.out HLI.out
              have a1 := hMr.out.at_ HLI.out hlj
              have u1 := (rowIs_below hub.out hdr.out.below).cell hlj
              have hsuc := Go.Lib.hid (rOkJ_succ N.length M out i j)
              clear hlj
              generalize M i j = b1 at a1 hsuc
              generalize out.contains j = b2 at u1 hsuc
              by_cases hij : i = j
              · have e1 : ((i : Int) == (j : Int)) = true := beq_iff_eq.mpr (by omega)
                have e2 : (i == j) = true := beq_iff_eq.mpr hij
                have hnx := Go.Lib.hid (show rOkJ N.length M out i (j + 1) = (ok && !b1) by rw [hsuc.out, ← hok.out, e2]; cases b2 <;> cases b1 <;> rfl)
                clear hij hsuc
                cases b1
                · have hnx2 := Go.Lib.hid (show ok = rOkJ N.length M out i (j + 1) by rw [hnx.out]; cases ok <;> rfl)
                  go_wp2_with fail
                  go_roundg (gk - 1)
                  case measure => have := hj.out; have := HLJ.out; omega
                  case rel => exact ⟨j + 1, ok, Go.Lib.hid (by have := hj.out; have := HLJ.out; omega), by go_num, rfl, hnx2, hdr⟩
                · have hnx2 := Go.Lib.hid (show false = rOkJ N.length M out i (j + 1) by rw [hnx.out]; cases ok <;> rfl)
                  cases b2
                  all_goals
                    go_wp2_with fail
                    go_roundg (gk - 1)
                    case measure => have := hj.out; have := HLJ.out; omega
                    case rel => exact ⟨j + 1, false, Go.Lib.hid (by have := hj.out; have := HLJ.out; omega), by go_num, rfl, hnx2, hdr⟩
              · have e1 : ((i : Int) == (j : Int)) = false := beq_eq_false_iff_ne.mpr (by omega)
                have e2 : (i == j) = false := beq_eq_false_iff_ne.mpr hij
                have hnx := Go.Lib.hid (show rOkJ N.length M out i (j + 1) = (ok && !(b1 && !b2)) by rw [hsuc.out, ← hok.out, e2]; cases b2 <;> cases b1 <;> rfl)
                clear hij hsuc
                cases b1
                · have hnx2 := Go.Lib.hid (show ok = rOkJ N.length M out i (j + 1) by rw [hnx.out]; cases ok <;> rfl)
                  go_wp2_with fail
                  go_roundg (gk - 1)
                  case measure => have := hj.out; have := HLJ.out; omega
                  case rel => exact ⟨j + 1, ok, Go.Lib.hid (by have := hj.out; have := HLJ.out; omega), by go_num, rfl, hnx2, hdr⟩
                · cases b2
                  · have hnx2 := Go.Lib.hid (show false = rOkJ N.length M out i (j + 1) by rw [hnx.out]; cases ok <;> rfl)
                    go_wp2_with fail
                    go_roundg (gk - 1)
                    case measure => have := hj.out; have := HLJ.out; omega
                    case rel => exact ⟨j + 1, false, Go.Lib.hid (by have := hj.out; have := HLJ.out; omega), by go_num, rfl, hnx2, hdr⟩
                  · have hnx2 := Go.Lib.hid (show ok = rOkJ N.length M out i (j + 1) by rw [hnx.out]; cases ok <;> rfl)
                    go_wp2_with fail
                    go_roundg (gk - 1)
                    case measure => have := hj.out; have := HLJ.out; omega
                    case rel => exact ⟨j + 1, ok, Go.Lib.hid (by have := hj.out; have := HLJ.out; omega), by go_num, rfl, hnx2, hdr⟩
            · have hlj' : ¬ (j : Int) < (N.length : Int) := by omega
              have hokf := Go.Lib.hid (show rOk N.length M out i = ok by rw [hok.out, show j = N.length by have := hj.out; omega, rOkJ_n])
              clear hlj hok
              have hbd := Go.Lib.hid (bestK_lt (rOk N.length M out) (ltN N) i)
              have hbs' := Go.Lib.hid (show bestK (rOk N.length M out) (ltN N) (i + 1) = if ok && (decide (best < 0) || ltN N i best.toNat) then (i : Int) else best by rw [bestK, hokf.out, ← hbest.out])
              cases ok
              · have hnx := Go.Lib.hid (show best = bestK (rOk N.length M out) (ltN N) (i + 1) by rw [hbs'.out]; rfl)
                go_wp2_with fail
                go_quiet (fail)
                go_wp2_with fail
                go_roundg (N.length - (i + 1))
                case measure => have := hi.out; have := HLI.out; omega
                case rel => exact ⟨i + 1, best, Go.Lib.hid (by have := HLI.out; omega), by go_num, rfl, hnx, Go.Lib.hid (drawn_trans hdr.out ⟨⟨_, rfl⟩⟩)⟩
              · by_cases hb0 : best < 0
                · have d0 : decide (best < 0) = true := decide_eq_true hb0
                  have hnx := Go.Lib.hid (show (i : Int) = bestK (rOk N.length M out) (ltN N) (i + 1) by rw [hbs'.out, d0]; rfl)
                  clear hb0
                  go_wp2_with fail
                  go_quiet (fail)
                  go_wp2_with fail
                  go_roundg (N.length - (i + 1))
                  case measure => have := hi.out; have := HLI.out; omega
                  case rel => exact ⟨i + 1, _, Go.Lib.hid (by have := HLI.out; omega), by go_num, rfl, hnx, Go.Lib.hid (drawn_trans hdr.out ⟨⟨_, rfl⟩⟩)⟩
                · obtain ⟨bn, rfl⟩ : ∃ bn : Nat, best = (bn : Int) := ⟨best.toNat, by omega⟩
                  have hbn : bn < N.length := by have h := hbd.out.2.1; rw [← hbest.out] at h; have := HLI.out; omega
                  have hbn' : (bn : Int) < (N.length : Int) := by omega
                  have d0 : decide ((bn : Int) < 0) = false := decide_eq_false hb0
                  have hbelow := hb.out.trans (hdr.out.below.mono hb.out.size)
                  obtain ⟨ad, rfl, n1⟩ := at_S (Kd.C_below HR0.out hbelow) HLI.out
                  obtain ⟨ad', hade, n2⟩ := at_S (Kd.C_below HR0.out hbelow) hbn
                  obtain rfl := Option.some.inj hade
                  have hltv := Go.Lib.hid (show ltN N i bn = Op.bytesLess (sx N (i : Int)).toList (sx N (bn : Int)).toList from rfl)
                  generalize sx N (i : Int) = s1 at *
                  generalize sx N (bn : Int) = s2 at *
                  clear hbelow hade
                  by_cases hl2 : Op.bytesLess s1.toList s2.toList = true
                  · have hnx := Go.Lib.hid (show (i : Int) = bestK (rOk N.length M out) (ltN N) (i + 1) by rw [hbs'.out, Int.toNat_natCast, hltv.out, hl2]; simp)
                    clear hb0 hbn
                    go_wp2_with fail
                    go_quiet (fail)
                    go_wp2_with fail
                    go_roundg (N.length - (i + 1))
                    case measure => have := hi.out; have := HLI.out; omega
                    case rel => exact ⟨i + 1, _, Go.Lib.hid (by have := HLI.out; omega), by go_num, rfl, hnx, Go.Lib.hid (drawn_trans hdr.out ⟨⟨_, rfl⟩⟩)⟩
                  · have hl3 : Op.bytesLess s1.toList s2.toList = false := by simpa using hl2
                    have hnx := Go.Lib.hid (show (bn : Int) = bestK (rOk N.length M out) (ltN N) (i + 1) by rw [hbs'.out, Int.toNat_natCast, hltv.out, hl3, d0]; rfl)
                    clear hb0 hbn hl2
                    go_wp2_with fail
                    go_quiet (fail)
                    go_wp2_with fail
                    go_roundg (N.length - (i + 1))
                    case measure => have := hi.out; have := HLI.out; omega
                    case rel => exact ⟨i + 1, _, Go.Lib.hid (by have := HLI.out; omega), by go_num, rfl, hnx, Go.Lib.hid (drawn_trans hdr.out ⟨⟨_, rfl⟩⟩)⟩
        · have hli' : ¬ (i : Int) < (N.length : Int) := by omega
          have hbf := Go.Lib.hid (show best = bestK (rOk N.length M out) (ltN N) N.length by rw [hbest.out, show i = N.length by have := hi.out; omega])
          clear hli hbest
          obtain ⟨d, hd⟩ : ∃ d, N.length = out.length + d + 1 := ⟨N.length - out.length - 1, by have := HLT.out; omega⟩
          have hord2 := Go.Lib.hid (show ord (rOk N.length M) (ltN N) N.length N.length [] = if best < 0 then none else ord (rOk N.length M) (ltN N) N.length d (out ++ [best.toNat]) by
            rw [hord.out, hbf.out, show N.length - out.length = d + 1 by omega]; rfl)
          have HDD := Go.Lib.hid hd
          clear hd
          have hbelow := Go.Lib.hid (hb.out.trans (hdr.out.below.mono hb.out.size))
          by_cases hb0 : best < 0
          · have d0 : decide (best < 0) = true := decide_eq_true hb0
            have hno := Go.Lib.hid (show ord (rOk N.length M) (ltN N) N.length N.length [] = none by rw [hord2.out, if_pos hb0])
            clear hb0
            go_wp2_with fail
            go_ret
            exact ⟨⟨M, HMat.out, .inr ⟨hno.out, rfl⟩⟩, hbelow.out⟩
          · obtain ⟨bn, rfl⟩ : ∃ bn : Nat, best = (bn : Int) := ⟨best.toNat, by omega⟩
            have d0 : decide ((bn : Int) < 0) = false := decide_eq_false hb0
            have hbn : bn < N.length := by have h := (bestK_lt (rOk N.length M out) (ltN N) N.length).2.1; rw [← hbf.out] at h; omega
            have hbn' : (bn : Int) < (N.length : Int) := by omega
            have hord3 := Go.Lib.hid (show ord (rOk N.length M) (ltN N) N.length N.length [] = ord (rOk N.length M) (ltN N) N.length d (out ++ [bn]) by rw [hord2.out, if_neg hb0, Int.toNat_natCast])
            have hub2 := rowIs_below hub.out hdr.out.below
            have u0 := hub2.cell hbn
            have uf := hub2.frozen bn
            have hxl : (xs.length : Int) ≤ 16 := by rw [hxs.out, oi_length]; have := HLT.out; omega
            have hownr := pw_own_below hown.out hdr.out.below
            have hown2 := Go.Lib.hid (show (wr.setCell ⟨ub, bn, none⟩ (.bool true)).ownsRow w.heap.size 3 1 (.slice A xs.length c) xs.length (nums .i64 xs) from by
              obtain ⟨cs, hcs⟩ := rowIs_blk hub2
              exact own_setCell (p := ⟨ub, bn, none⟩) hownr (own_ne (g := ub) (t := 4) hownr hcs (by decide)) _)
            have hub3 := Go.Lib.hid (show (wr.setCell ⟨ub, bn, none⟩ (.bool true)).rowIs ub 4 N.length fun j => .bool ((out ++ [bn]).contains j) from (hub2.set bn (.bool true)).congr fun j _ => by
              by_cases e : j = bn
              · subst e; rw [if_pos rfl]; simp
              · rw [if_neg e]; simp [e])
            have hM3 := Go.Lib.hid ((hM.out.below hdr.out.below).far (j := bn) hfar.out.1 hfar.out.2 (.bool true))
            have hubB := Go.Lib.hid (show w.heap.size ≤ ub from hbs.out)
            have hB3 := Go.Lib.hid (show Below w.heap.size w (wr.setCell ⟨ub, bn, none⟩ (.bool true)) from hbelow.out.setCell (p := ⟨ub, bn, none⟩) hbs.out _)
            clear hb0 hub2 hownr
            go_wp2_with ((with_reducible refine gate_builtin (b := .append) (xs := #[.tmp 80, .tmp 82]) rfl ?_); at_builtin; refine print_append_num (w0 := w) w.heap.size rfl (.tmp 80) (.tmp 82) 24 3 .i64 8 rfl Try.underlying24 inf3 (by decide) (.slice A xs.length c) xs (bn : Int) rfl (by first | rfl | (go_simp; done) | (go_simp; rfl)) ?q1 ?q2 ?q3 ?q4 ?_; (case q1 => exact hown2.out); (case q2 => exact hB3.out); (case q3 => exact hB3.out.size); (case q4 => omega); intro v1 w9 ho9 hb9 hg9 hat9; obtain ⟨A9, c9, rfl⟩ := own_slice ho9; have HO9 := Go.Lib.hid ho9; have HB9 := Go.Lib.hid hb9; have hub9 := Go.Lib.hid (rowIs_grown hub3.out hown2.out (by decide) hg9); have hM9 := Go.Lib.hid (hM3.out.grown hown2.out hg9); clear ho9 hb9 hg9 hat9)
            go_roundg d
            case measure => have := ho.out; have := HDD.out; omega
            case rel => exact ⟨out ++ [bn], xs ++ [(bn : Int)], A9, c9, Go.Lib.hid (by rw [List.length_append, List.length_singleton]; have := HDD.out; omega), by rw [List.length_append]; rfl, by rw [List.length_append]; rfl, Go.Lib.hid (by rw [hxs.out, oi_snoc]), HO9, hub9, hM9, Go.Lib.hid (by rw [hord3.out, List.length_append, List.length_singleton, show N.length - (out.length + 1) = d by have := HDD.out; omega]), HB9⟩
    · have hlt' : ¬ (out.length : Int) < (N.length : Int) := by omega
      have hfin := Go.Lib.hid (show ord (rOk N.length M) (ltN N) N.length N.length [] = some out ∧ out.length = N.length by
        have h1 := ho.out
        refine ⟨?_, by omega⟩
        rw [hord.out, show N.length - out.length = 0 by omega]; rfl)
      clear hlt
      go_wp2_with fail
      go_ret
      have h3 := hown.out
      rw [hxs.out] at h3
      exact ⟨⟨M, HMat.out, .inl ⟨out, A, c, hfin.out.1, hfin.out.2, by rw [hxs.out]; rfl, h3⟩⟩, hb.out⟩
end Go.Proofs.Ytdobkkoonamocaa.Mo
