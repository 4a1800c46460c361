import Derived.Test.YtjhinklijopobaaDoorJa
import Derived.Deep.CutRange
namespace Go.Proofs.YtjhinklijopobaaDoor.Co
open Go.RowKit Go.Proofs.YtjhinklijopobaaDoor.PCoreChecks Go.Proofs.YtjhinklijopobaaDoorW.PrintWords Go.Proofs.YtjhinklijopobaaDoorW.PrintLast Go.Proofs.YtjhinklijopobaaDoorW.PrintMore
set_option linter.unusedVariables false
set_option linter.unusedSimpArgs false

/-! ### core.List: the walk -/
theorem regA {w0 W wn : World} {ob : Nat} {ok : Nat → Prop} {v : Value} {o : List S28} {op n : Int} {A7 : Option Addr} {c7 : Nat} {bs : List Int} (hO : Ow w0 W ob ok v o) (hr : Kd.R (Kd.int .i64) 3 wn W.drew.heap.size (fun _ => True) (.slice A7 bs.length c7) bs) (hb : Below W.drew.heap.size W.drew wn) :
    Lk w0 W (wn.alloc (.cells #[.int .i64 op, .int .i64 n, .slice A7 bs.length c7, .slice none 0 0, .slice none 0 0] 28)) ob ok wn.heap.size op n (.slice A7 bs.length c7) (.slice none 0 0) v bs [] o :=
  have h1 : Below W.heap.size W wn := below_step (below_drew (Below.refl _ _)) hb
  Lk.start hO (below_alloc h1 _) h1.size (blk_new _ _) (Kd.R_alloc hr _)
theorem regB {w0 W wn : World} {ob : Nat} {ok : Nat → Prop} {v : Value} {o : List S28} {op n : Int} {A7 : Option Addr} {c7 : Nat} {bs : List Int} (hO : Ow w0 W ob ok v o)
    (hr : Kd.R (Kd.int .i64) 3 wn (W.drew.alloc (.cells #[.int .i64 0, .int .i64 0, .slice none 0 0, .slice none 0 0, .slice none 0 0] 28)).heap.size (fun _ => True) (.slice A7 bs.length c7) bs)
    (hb : Below (W.drew.alloc (.cells #[.int .i64 0, .int .i64 0, .slice none 0 0, .slice none 0 0, .slice none 0 0] 28)).heap.size (W.drew.alloc (.cells #[.int .i64 0, .int .i64 0, .slice none 0 0, .slice none 0 0, .slice none 0 0] 28)) wn) :
    Lk w0 W (((((wn.setCell ⟨W.heap.size, 0, none⟩ (.int .i64 op)).setCell ⟨W.heap.size, 1, none⟩ (.int .i64 n)).setCell ⟨W.heap.size, 2, none⟩ (.slice A7 bs.length c7)).setCell ⟨W.heap.size, 3, none⟩ (.slice none 0 0)).setCell ⟨W.heap.size, 4, none⟩ (.slice none 0 0)) ob ok W.heap.size op n (.slice A7 bs.length c7) (.slice none 0 0) v bs [] o := by
  have h1 : Below W.heap.size W wn := below_step (below_alloc (below_drew (Below.refl _ _)) _) hb
  have htb : wn.heap[W.heap.size]? = some (.cells #[.int .i64 0, .int .i64 0, .slice none 0 0, .slice none 0 0, .slice none 0 0] 28 (0, 0)) := blk_below (blk_new W.drew _) hb
  have t1 := blk_put htb 0 (.int .i64 op) rfl
  have t2 := blk_put t1 1 (.int .i64 n) rfl
  have t3 := blk_put t2 2 (.slice A7 bs.length c7) rfl
  have t4 := blk_put t3 3 (.slice none 0 0) rfl
  have t5 := blk_put t4 4 (.slice none 0 0) rfl
  have ty : ∀ q, q ∈ 3 :: (Kd.int .i64).E → q ≠ 28 := fun q hq => by rw [List.mem_singleton.1 hq]; decide
  refine Lk.start hO (below_set (below_set (below_set (below_set (below_set h1 (Nat.le_refl _)) (Nat.le_refl _)) (Nat.le_refl _)) (Nat.le_refl _)) (Nat.le_refl _)) (Nat.le_refl _) t5 ?_
  exact Kd.R_set (Kd.R_set (Kd.R_set (Kd.R_set (Kd.R_set (Kd.R_lower hr (by simp)) htb ty 0 _) t1 ty 1 _) t2 ty 2 _) t3 ty 3 _) t4 ty 4 _

/-- The copied row of an alternative is the call's own and new. -/
theorem alt_row {w0 We W wn : World} {ob b : Nat} {ok : Nat → Prop} {op n : Int} {v2 vk v4 v v7 : Value} {bs ks : List Int} {al : List S86} {o : List S28} {xs : List Int} (h : Lt w0 We W ob ok b op n v2 vk v4 v bs ks al o) (hr : Kd.R (Kd.int .i64) 3 wn W.heap.size (fun _ => True) v7 xs) : Kd.R (Kd.int .i64) 3 wn w0.heap.size (fun k => We.heap.size ≤ k ∧ some k ≠ v4.ownBlock) v7 xs :=
  Kd.R_lower (Kd.R_mono (Kd.R_bound (Kd.R_newR hr h.r4)) (fun k hk => ⟨Nat.le_trans h.fr.1 hk.2.1, hk.1.2⟩)) h.bl.size
set_option maxHeartbeats 32000000 in
set_option maxRecDepth 100000 in
theorem list1_calls (w0 : World) (t : List S28) (ps : Nat → Nat) (N : Nat) (hT : Ft w0 t N ps) (htr : treeB t = true) (hn : t.length ≤ 4096) (hf : ∀ x ∈ t, Fit x) (ob wb : Nat) :
    ∀ (m i : Nat), i < m → i < t.length → i < N → ∀ (W : World) (ok : Nat → Prop) (o : List S28) (v : Value), Ow w0 W ob ok v o → Lc w0 W ob wb ok → o.length + cntB t i ≤ 100000 →
      Calls Tryd.prog 88 #[ptrV (ps i), ptrV wb, ptrV ob] W (LpP w0 t m i W ob ok o) := by
  intro m
  induction m with
  | zero => intro i hi; omega
  | succ m ih =>
    intro i him hi hiN W ok o v hO hc hlen
    have HIH := Go.Lib.hid ih
    have HI := Go.Lib.hid hi
    have HIM := Go.Lib.hid him
    have HIN := Go.Lib.hid hiN
    have HN := Go.Lib.hid hn
    have HO := Go.Lib.hid hO
    have HC := Go.Lib.hid hc
    have HLEN := Go.Lib.hid hlen
    obtain ⟨A2, c2, A3, c3, A4, c4, hN⟩ := hT i hi hiN
    have HNR := Go.Lib.hid hN
    have HFT := Go.Lib.hid (hf _ (List.getElem_mem hi))
    have HKD := Go.Lib.hid (fun k (hk : k ∈ (t[i]'hi).f3) => badK_mem (rB_at (treeB_parts htr).2.1 i hi) hk)
    have HKL := Go.Lib.hid (kids_len htr hi)
    have HCE := Go.Lib.hid (cntB_eq htr hi)
    have HCK := Go.Lib.hid (fun (k : Nat) (hk : k < (t[i]'hi).f3.length) (c : Nat) (hc : (t[i]'hi).f3[k]'hk = (c : Int)) => cntK_succ htr hi hk hc)
    have HLL := Go.Lib.hid (fun (c b : Nat) (hcm : c < m) (hct : c < t.length) => (lst_len htr m c b hcm hct).1)
    have HLK := Go.Lib.hid (show ∀ j, j ≤ (t[i]'hi).f3.length → (kfold (lst t m) o.length ((t[i]'hi).f3.take j)).1.length = cntK t i j from by
      have h := (lst_len htr (m + 1) i o.length him hi).2
      rw [rdT_nat t i hi] at h
      exact h)
    have HLS := Go.Lib.hid (lst_succ t m i o.length hi)
    have HMO := Go.Lib.hid (fun j j' (h : j ≤ j') (h2 : j' ≤ (t[i]'hi).f3.length) => cntK_mono htr hi h h2)
    generalize t[i]'hi = x at hN HNR HKD HKL HCE HCK HLK HLS HMO HFT
    have hNW := hN.below hO.bl
    obtain ⟨t0, t1, t2, t3, t4⟩ := hNW.tb.cells
    have HNW := Go.Lib.hid hNW
    have HL2 := Go.Lib.hid (show x.f2.length ≤ 17592186044416 by have := HFT.out.b; omega)
    have HCL := Go.Lib.hid (fun W' (hb : Below W.heap.size W W') => clone_calls x.f2 A2 c2 W' (Kd.C_below hNW.g2 hb) HL2.out)
    have hk9 : (x.f3.length : Int) ≤ 4096 := by have := HKL.out; have := HI.out; have := HN.out; omega
    have ha9 : (x.f4.length : Int) ≤ 4096 := by have := HFT.out.a; omega
    have e0 : ∀ o, (W.alloc o).cell? ⟨ps i, 0, none⟩ = some (.int .i64 x.f0) := fun o => ((hNW.below (below_alloc (Below.refl _ _) o)).tb.cells).1
    have e1 : ∀ o, (W.alloc o).cell? ⟨ps i, 1, none⟩ = some (.int .i64 x.f1) := fun o => ((hNW.below (below_alloc (Below.refl _ _) o)).tb.cells).2.1
    have e2 : ∀ o, (W.alloc o).cell? ⟨ps i, 2, none⟩ = some (.slice A2 x.f2.length c2) := fun o => ((hNW.below (below_alloc (Below.refl _ _) o)).tb.cells).2.2.1
    clear ih him hi hiN hn hN hNW hT hO hc hlen htr hf
    go_enter Tryd.func88, Tryd.ntmps88
    go_wp2_with fail
    go_cut [5] from 10 to 23 (fun s5 wx => ∃ (b : Nat) (A7 : Option Addr) (c7 : Nat), s5 = ptrV b ∧ Hid (Lk w0 W wx ob ok b x.f0 x.f1 (.slice A7 x.f2.length c7) (.slice none 0 0) v x.f2 [] o))
    case first =>
      go_region_law ((go_simp; go_at_call 83; first
        | (refine (HCL.out W.drew (below_drew (Below.refl _ _))).mono ?_; rintro e wn ⟨v7, rfl, hr7, hb7⟩; obtain ⟨A7, c7, rfl⟩ := Kd.R_slice hr7; have HN7 := Go.Lib.hid (HNW.out.below (below_step (below_drew (Below.refl _ _)) hb7)); obtain ⟨y0, y1, y2, -, -⟩ := HN7.out.tb.cells; have Y0 : ∀ o, (wn.alloc o).cell? ⟨ps i, 0, none⟩ = some (.int .i64 x.f0) := (fun o => ((HN7.out.below (below_alloc (Below.refl _ _) o)).tb.cells).1); have Y1 : ∀ o, (wn.alloc o).cell? ⟨ps i, 1, none⟩ = some (.int .i64 x.f1) := (fun o => ((HN7.out.below (below_alloc (Below.refl _ _) o)).tb.cells).2.1); have HS := Go.Lib.hid (regA (op := x.f0) (n := x.f1) HO.out hr7 hb7); clear hr7 hb7)
        | (refine (HCL.out (W.drew.alloc (.cells #[.int .i64 0, .int .i64 0, .slice none 0 0, .slice none 0 0, .slice none 0 0] 28)) (below_alloc (below_drew (Below.refl _ _)) _)).mono ?_; rintro e wn ⟨v7, rfl, hr7, hb7⟩; obtain ⟨A7, c7, rfl⟩ := Kd.R_slice hr7; have HN7 := Go.Lib.hid (HNW.out.below (below_step (below_alloc (below_drew (Below.refl _ _)) _) hb7)); obtain ⟨y0, y1, y2, -, -⟩ := HN7.out.tb.cells; have htb : wn.heap[W.heap.size]? = some (.cells #[.int .i64 0, .int .i64 0, .slice none 0 0, .slice none 0 0, .slice none 0 0] 28 (0, 0)) := blk_below (blk_new W.drew (.cells #[.int .i64 0, .int .i64 0, .slice none 0 0, .slice none 0 0, .slice none 0 0] 28)) hb7; have z0 : wn.cell? ⟨W.heap.size, 0, none⟩ = some (.int .i64 0) := (blk_cell htb 0).trans rfl; have z1 : wn.cell? ⟨W.heap.size, 1, none⟩ = some (.int .i64 0) := (blk_cell htb 1).trans rfl; have z2 : wn.cell? ⟨W.heap.size, 2, none⟩ = some (.slice none 0 0) := (blk_cell htb 2).trans rfl; have z3 : wn.cell? ⟨W.heap.size, 3, none⟩ = some (.slice none 0 0) := (blk_cell htb 3).trans rfl; have z4 : wn.cell? ⟨W.heap.size, 4, none⟩ = some (.slice none 0 0) := (blk_cell htb 4).trans rfl; have f0 : wn.frozen? ⟨W.heap.size, 0, none⟩ = false := blk_frozen htb 0; have f1 : wn.frozen? ⟨W.heap.size, 1, none⟩ = false := blk_frozen htb 1; have f2 : wn.frozen? ⟨W.heap.size, 2, none⟩ = false := blk_frozen htb 2; have f3 : wn.frozen? ⟨W.heap.size, 3, none⟩ = false := blk_frozen htb 3; have f4 : wn.frozen? ⟨W.heap.size, 4, none⟩ = false := blk_frozen htb 4; have HS := Go.Lib.hid (regB (op := x.f0) (n := x.f1) HO.out hr7 hb7); clear hr7 hb7 htb)))
      all_goals
        go_wp2_with fail
        go_meet
        exact ⟨_, A7, c7, rfl, HS⟩
    case rest =>
      obtain ⟨b, A7, c7, rfl, hL⟩ := hcut
      clear t0 t1 t2 t3 t4 e0 e1 e2 HCL HO
      have HL0 := Go.Lib.hid (show Lk w0 W wc ob ok b x.f0 x.f1 (.slice A7 x.f2.length c7) (.slice none 0 0) v x.f2 (kfold (lst t m) o.length (x.f3.take 0)).2 (o ++ (kfold (lst t m) o.length (x.f3.take 0)).1) by have h := hL.out; simpa [kfold] using h)
      obtain ⟨-, -, -, t3, -⟩ := (HNR.out.below hL.out.bl).tb.cells
      have hkb9 : (((x.f3.map fun k => ps k.toNat).length : Nat) : Int) ≤ 4096 := by rw [List.length_map]; omega
      clear hL
      go_wp2_with fail
      clear t3
      go_loopg [29] x.f3.length (fun g_ v29 w' => ∃ (j : Nat) (vk v' : Value), Hid (j + g_ = x.f3.length) ∧ v29 = .int .i64 j ∧ Hid (Lk w0 W w' ob ok b x.f0 x.f1 (.slice A7 x.f2.length c7) vk v' x.f2 (kfold (lst t m) o.length (x.f3.take j)).2 (o ++ (kfold (lst t m) o.length (x.f3.take j)).1)))
      case atStart => exact ⟨0, _, _, Go.Lib.hid (by omega), rfl, HL0⟩
      case round =>
        clear HL0
        obtain ⟨j, vk, v', hj, rfl, hI⟩ := hrel
        obtain ⟨wi, hwi⟩ : ∃ wi : World, wi = wr := ⟨_, rfl⟩
        subst hwi
        by_cases hlt : j < x.f3.length
        · have hltk : (j : Int) < (((x.f3.map fun k => ps k.toNat).length : Nat) : Int) := by rw [List.length_map]; omega
          have hltk' : decide (j < (x.f3.map fun k => ps k.toNat).length) = true := decide_eq_true (by rw [List.length_map]; exact hlt)
          have hltj : (j : Int) < (x.f3.length : Int) := by omega
          have hj0 : (0 : Int) ≤ (j : Int) := by omega
          have HJ := Go.Lib.hid hlt
          have hG3 := HNR.out.g3
          obtain ⟨ad, cs, e_, _, hK, hcell⟩ := Kd.C_get hG3 (0 : Nat) (j : Int) hj0 hltk
          have hK' : cs = [ptrV ((x.f3.map fun k => ps k.toNat).getD (j : Int).toNat 0)] := hK
          subst hK'
          have q0 := hcell 0 _ rfl
          have hk1 : kp.sz = 1 := rfl
          rw [hk1, Int.toNat_natCast, Nat.mul_one, Nat.add_zero, List.getD_eq_getElem?_getD, List.getElem?_map, List.getElem?_eq_getElem hlt] at q0
          cases e_
          obtain ⟨c, hc⟩ : ∃ c : Nat, x.f3[j]'hlt = (c : Int) := ⟨(x.f3[j]'hlt).toNat, by have := HKD.out _ (List.getElem_mem hlt); omega⟩
          have hcb := HKD.out _ (List.getElem_mem hlt)
          rw [hc] at hcb
          simp only [hc, Option.map_some, Option.getD_some, Int.toNat_natCast] at q0
          have HCI := Go.Lib.hid (show c < i by omega)
          have hkt := kfold_take (lst t m) o.length x.f3 j hlt
          have hKL := HLK.out j (by omega)
          have hcs := HCK.out j hlt c hc
          have hmo := HMO.out (j + 1) x.f3.length (by omega) (Nat.le_refl _)
          rw [hc] at hkt
          unfold kstep at hkt
          rw [Int.toNat_natCast] at hkt
          have hks := kfold_len2 (lst t m) o.length (x.f3.take j)
          generalize kfold (lst t m) o.length (x.f3.take j) = K at hI hkt hKL hks
          obtain ⟨os, ks⟩ := K
          simp only at hI hkt hKL hks
          replace q0 := pw_cell_below hI.out.bl q0
          have HID := Go.Lib.hid (hI.out.lift (below_drew (Below.refl _ _)))
          have hll := HLL.out c (o.length + os.length) (by have := HIM.out; omega) (by have := HI.out; omega)
          have HRC := Go.Lib.hid (kid_callL HID.out HC.out (HIH.out c (by have := HIM.out; have := HCI.out; omega) (by have := HI.out; have := HCI.out; omega) (by have := HIN.out; have := HCI.out; omega) _ _ _ _ (HID.out.kidOut HC.out) (HID.out.kidC HC.out) (by
            rw [List.length_append, hKL]
            have := HLEN.out; have := HCE.out; omega)))
          obtain ⟨z, hz⟩ : ∃ z : Int, z = (((o ++ os).length + cntB t c : Nat) : Int) - 1 := ⟨_, rfl⟩
          obtain ⟨o2, ho2⟩ : ∃ o2 : List S28, o2 = (o ++ os) ++ lst t m c (o ++ os).length := ⟨_, rfl⟩
          have HK2 := Go.Lib.hid (show (kfold (lst t m) o.length (x.f3.take (j + 1))).2 = ks ++ [z] by rw [hkt, hz, List.length_append, hll])
          have HK1 := Go.Lib.hid (show o ++ (kfold (lst t m) o.length (x.f3.take (j + 1))).1 = o2 by rw [hkt, ho2, List.length_append, List.append_assoc])
          rw [← hz, ← ho2] at HRC
          have HKS := Go.Lib.hid (show ks.length ≤ 4096 by rw [hks, List.length_take]; have := HN.out; have := HKL.out; have := HI.out; omega)
          generalize o ++ os = oo at hI HID HRC
          obtain ⟨y3, f3⟩ := hI.out.cells
          have pwb : wi.cell? ⟨wb, 0, none⟩ = some (.func (.func 88) #[] #[ptrV wb, ptrV ob]) := (blk_cell (hI.out.kidC HC.out).wx 0).trans rfl
          clear hlt hc hcb hG3 hK hcell hk1 hkt hKL hcs hmo hks hll hz ho2
          go_wp2_with fail
          go_region_law (first
            | (refine Kd.R_append_step (Kd.int .i64) (w0 := w0) (W := wn) w0.heap.size (by rfl) (.tmp 34) (.tmp 38) 25 3 (.int .i64 0) 8 rfl Tryd.underlying25 info3 rfl (by decide) (by decide) vk ks z [.int .i64 z] (fun k => W.heap.size ≤ k) (fun _ => False) (by simp [Act.eval, Act.put]) (by simp [Act.eval, Act.put]) rfl (fun _ h => h.elim) (fun k hk => Nat.le_trans HNI.out.fr.1 hk) HNI.out.rk HNI.out.bl HNI.out.bl.size (by have := HKS.out; omega) ?_; intro v9 w9 hr9 hb9 hg9 hat9; obtain ⟨A9, c9, rfl⟩ := Kd.R_slice hr9; have HB9 := Go.Lib.hid (HNI.out.kid HC.out hr9 hb9 hg9 hat9); obtain ⟨g3, gf3⟩ := HNI.out.grownB hg9; clear hr9 hb9 hg9 hat9)
            | (go_simp; go_at_call 88; refine HRC.out.mono ?_; rintro e wn ⟨vn, rfl, hn⟩; have HNI := Go.Lib.hid hn; obtain ⟨z3, zf3⟩ := hn.cells; have Z3 : ∀ o, (wn.alloc o).cell? ⟨b, 3, none⟩ = some vk := (fun o => (HNI.out.lift (below_alloc (Below.refl _ _) o)).cells.1); clear hn))
          all_goals
            go_wp2_with fail
            go_roundg (gk - 1)
            case measure => have := hj.out; have := HJ.out; omega
            case rel => exact ⟨j + 1, .slice A9 (ks.length + 1) c9, vn, Go.Lib.hid (by have := hj.out; have := HJ.out; omega), by go_num, Go.Lib.hid (by have h := HB9.out; rw [List.length_append, List.length_singleton] at h; rw [HK2.out, HK1.out]; exact h)⟩
        · have hd : decide ((j : Int) < (((x.f3.map fun k => ps k.toNat).length : Nat) : Int)) = false := decide_eq_false (by rw [List.length_map]; omega)
          have hd2 : decide (j < (x.f3.map fun k => ps k.toNat).length) = false := decide_eq_false (by rw [List.length_map]; exact hlt)
          have hd3 : decide ((j : Int) < (x.f3.length : Int)) = false := decide_eq_false (by omega)
          have hd4 : decide (j < x.f3.length) = false := decide_eq_false hlt
          rw [show x.f3.take j = x.f3 from List.take_of_length_le (by omega)] at hI
          have hKL := HLK.out x.f3.length (Nat.le_refl _)
          rw [List.take_length] at hKL
          have hls := HLS.out
          generalize kfold (lst t m) o.length x.f3 = K at hI hKL hls
          obtain ⟨os, ks⟩ := K
          simp only at hI hKL hls
          have HOL := Go.Lib.hid (show (o ++ os).length ≤ 100000 by rw [List.length_append, hKL]; have := HLEN.out; have := HCE.out; omega)
          have HOZ := Go.Lib.hid (show ((o ++ os).length : Int) + 1 - 1 = ((o.length + cntB t i : Nat) : Int) - 1 by rw [List.length_append, hKL]; have := HCE.out; omega)
          have HOO := Go.Lib.hid (show (o ++ os) ++ [⟨x.f0, x.f1, x.f2, ks, x.f4⟩] = o ++ lst t (m + 1) i o.length by rw [hls, List.append_assoc])
          generalize o ++ os = oo at hI HOL HOZ HOO
          have HLT := Go.Lib.hid (show Lt w0 W wi ob ok b x.f0 x.f1 (.slice A7 x.f2.length c7) vk (.slice none 0 0) v' x.f2 ks (x.f4.take 0) oo from hI.out.alts)
          obtain ⟨-, -, -, -, t4⟩ := (HNR.out.below hI.out.bl).tb.cells
          clear hlt hKL hls hI hj
          go_wp2_with fail
          clear t4
          go_loopg [47] x.f4.length (fun g_ v47 w' => ∃ (j : Nat) (v4 : Value), Hid (j + g_ = x.f4.length) ∧ v47 = .int .i64 j ∧ Hid (Lt w0 W w' ob ok b x.f0 x.f1 (.slice A7 x.f2.length c7) vk v4 v' x.f2 ks (x.f4.take j) oo))
          case atStart => exact ⟨0, _, Go.Lib.hid (by omega), rfl, HLT⟩
          case round =>
            clear HLT
            obtain ⟨j, v4, hj, rfl, hbu⟩ := hrel
            obtain ⟨wi, hwi⟩ : ∃ wi : World, wi = wr := ⟨_, rfl⟩
            subst hwi
            by_cases hlt : j < x.f4.length
            · have hltj : (j : Int) < (x.f4.length : Int) := by omega
              have hj0 : (0 : Int) ≤ (j : Int) := by omega
              have HJ := Go.Lib.hid hlt
              obtain ⟨ad4, A1, c1, e_, q0, q1, r1, r2⟩ := at_T86 HNR.out.g4 (j : Int) hj0 hltj
              cases e_
              rw [rdA_nat x.f4 j hlt] at q0 q1 r1 r2
              rw [Int.toNat_natCast] at q0 q1
              have HTK := Go.Lib.hid (List.take_succ_eq_append_getElem hlt)
              have HAL := Go.Lib.hid (HFT.out.ab _ (List.getElem_mem hlt))
              generalize x.f4[j]'hlt = a at q0 q1 r1 r2 HTK HAL
              generalize hal0 : x.f4.take j = al at hbu HTK
              have HKB := Go.Lib.hid (show al.length ≤ 4096 by rw [← hal0, List.length_take]; omega)
              replace q0 := pw_cell_below hbu.out.bl q0
              replace q1 := pw_cell_below hbu.out.bl q1
              obtain ⟨wa, hwa⟩ : ∃ wa, wa = wi.alloc (.cells #[.int .i64 a.f0, .slice A1 a.f1.length c1] 86) := ⟨_, rfl⟩
              have HBA := Go.Lib.hid (show Below wi.heap.size wi wa by rw [hwa]; exact below_alloc (Below.refl _ _) _)
              have HXA := Go.Lib.hid (show Bxa wa wi.heap.size a A1 c1 by rw [hwa]; exact Bxa.made wi a A1 c1)
              have HQ2 := Go.Lib.hid (Kd.C_below (Kd.C_below r2 hbu.out.bl) HBA.out)
              have HLA := Go.Lib.hid (show a.f1.length ≤ 17592186044416 by have := HAL.out; omega)
              have HWA := Go.Lib.hid hwa
              clear hlt r1 r2 hal0 hwa
              go_wp2_with fail
              rw [← HWA.out]
              clear q0 q1
              have HBD := Go.Lib.hid ((hbu.out.lift HBA.out).lift (below_drew (Below.refl _ _)))
              obtain ⟨y0, y1⟩ := HXA.out.cells
              obtain ⟨⟨-, -, -, -, n4⟩, f4, -, -⟩ := (hbu.out.lift HBA.out).cells
              go_region_law (first
                | (refine Kd.R_append_step k86 (w0 := w0) (W := wn) w0.heap.size (by rfl) (.tmp 52) (.tmp 59) 26 86 (.agg #[.int .i64 0, .slice none 0 0]) 32 rfl Tryd.underlying26 info86 rfl (by decide) (by decide) v4 al a [.int .i64 a.f0, .slice A7' a.f1.length c7'] (fun k => W.heap.size ≤ k) _ (by simp [Act.eval, Act.put]) (by simp [Act.eval, Act.put]) (k86_mkM wn w0.heap.size _ a HR7.out) (fun k hk => hk) (fun k hk => Nat.le_trans HBN.out.fr.1 hk) HBN.out.r4 HBN.out.bl HBN.out.bl.size (by have := HKB.out; omega) ?_; intro v9 w9 hr9 hb9 hg9 hat9; obtain ⟨A9, c9, rfl⟩ := Kd.R_slice hr9; have HB9 := Go.Lib.hid (HBN.out.alt HC.out hr9 hb9 hg9 hat9); obtain ⟨g4, gf4⟩ := HBN.out.grownB hg9; clear hr9 hb9 hg9 hat9)
                | (go_simp; go_at_call 83; refine (clone_calls a.f1 A1 c1 _ (Kd.C_below HQ2.out (below_drew (Below.refl _ _))) HLA.out).mono ?_; rintro e wn ⟨v7, rfl, hr7, hb7⟩; obtain ⟨A7', c7', rfl⟩ := Kd.R_slice hr7; have HBN := Go.Lib.hid (HBD.out.lift hb7); have HR7 := Go.Lib.hid (alt_row HBD.out hr7); have z0 := ((HXA.out.below (below_drew (Below.refl _ _))).below hb7).cells.1; obtain ⟨⟨-, -, -, -, z4⟩, zf4, -, -⟩ := HBN.out.cells; have Z4 : ∀ o, (wn.alloc o).cell? ⟨b, 4, none⟩ = some v4 := (fun o => (HBN.out.lift (below_alloc (Below.refl _ _) o)).cells.1.2.2.2.2); clear hr7 hb7))
              all_goals
                go_wp2_with fail
                go_roundg (gk - 1)
                case measure => have := hj.out; have := HJ.out; omega
                case rel => exact ⟨j + 1, .slice A9 (al.length + 1) c9, Go.Lib.hid (by have := hj.out; have := HJ.out; omega), by go_num, Go.Lib.hid (by have h := HB9.out; rw [List.length_append, List.length_singleton] at h; rw [HTK.out]; exact h)⟩
            · have hd : decide ((j : Int) < (x.f4.length : Int)) = false := decide_eq_false (by omega)
              have hd2 : decide (j < x.f4.length) = false := decide_eq_false hlt
              have HB4 := Go.Lib.hid (show Lt w0 W wi ob ok b x.f0 x.f1 (.slice A7 x.f2.length c7) vk v4 v' x.f2 ks x.f4 oo by have h := hbu.out; rw [List.take_of_length_le (by omega)] at h; exact h)
              have HEM := Go.Lib.hid (HB4.out.elem HC.out)
              obtain ⟨⟨y0, y1, y2, y3, y4⟩, f4, no, fo⟩ := HB4.out.cells
              have NO : ∀ o, (wi.alloc o).cell? ⟨ob, 0, none⟩ = some v' := fun o => (HB4.out.lift (below_alloc (Below.refl _ _) o)).cells.2.2.1
              clear hlt hbu hj
              go_wp2_with (first | (at_builtin; refine Kd.R_append k28 (w0 := w0) (W := wi) w0.heap.size (by rfl) (.tmp 63) (.tmp 65) 22 28 (.agg #[.int .i64 0, .int .i64 0, .slice none 0 0, .slice none 0 0, .slice none 0 0]) 88 rfl Tryd.underlying22 info28 rfl (by decide) (by decide) v' oo ⟨x.f0, x.f1, x.f2, ks, x.f4⟩ [.int .i64 x.f0, .int .i64 x.f1, .slice A7 x.f2.length c7, vk, v4] ok (fun k => W.heap.size ≤ k ∧ some k ≠ v'.ownBlock) (by simp [Act.eval, Act.put]) (by simp [Act.eval, Act.put]) HEM.out.1 HEM.out.2 (fun k hk => HC.out.ok k (Nat.le_trans HB4.out.fr.1 hk)) HB4.out.outR HB4.out.bl HB4.out.bl.size (by have := HOL.out; omega) ?_; intro v9 w9 hr9 hb9 hg9 hat9; obtain ⟨A9, c9, rfl⟩ := Kd.R_slice hr9; obtain ⟨hO9, hF9⟩ := HB4.out.done HC.out hr9 hb9 hg9; have HO9 := Go.Lib.hid hO9; have HF9 := Go.Lib.hid hF9; obtain ⟨g3, gf3⟩ := HB4.out.grownO hg9; clear hr9 hb9 hg9 hat9 hO9 hF9) | fail)
              go_ret
              exact LpP.mk (by have h1 := HOL.out; have h2 := HOZ.out; rw [wrap_small (by omega) (by omega)]; omega) (by have h := HO9.out; rw [List.length_append, List.length_singleton] at h; exact h) HOO.out (by have h := HF9.out; rw [List.length_append, List.length_singleton] at h; exact h)
end Go.Proofs.YtjhinklijopobaaDoor.Co
