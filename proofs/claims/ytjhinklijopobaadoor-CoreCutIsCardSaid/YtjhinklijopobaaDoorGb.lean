import Derived.Test.YtjhinklijopobaaDoorGa
import Derived.Deep.RegionLaw
import Derived.Deep.RegionHeld3
namespace Go.Proofs.YtjhinklijopobaaDoor.Co
open Go.RowKit Go.Proofs.YtjhinklijopobaaDoor.PCoreChecks Go.Proofs.YtjhinklijopobaaDoorW.PrintWords Go.Proofs.YtjhinklijopobaaDoorW.PrintLast Go.Proofs.YtjhinklijopobaaDoorW.PrintMore
set_option linter.unusedVariables false
set_option linter.unusedSimpArgs false

/-! ### Node.into -/
theorem kid_call {w0 We W : World} {ob b m c : Nat} {t : List S28} {ok : Nat → Prop} {x : S28} {s2 s4 vk v : Value} {ks : List Int} {oo : List S28} {args : Array Value} (hI : Iw w0 We W ob ok b x s2 s4 vk v ks oo) (hc : Ic w0 We ob ok b)
    (h : Calls Tryd.prog 46 args W (InP w0 t m c W ob (okN ok b vk) oo)) : Calls Tryd.prog 46 args W fun e wn => ∃ v', e = .returned (.int .i64 (((oo.length + cntB t c : Nat) : Int) - 1)) ∧ Iw w0 We wn ob ok b x s2 s4 vk v' ks (oo ++ lst t m c oo.length) :=
  h.mono fun e wn ⟨v', he, hO, hF⟩ => ⟨v', he, hI.called hc hO hF⟩
theorem InP.mk {w0 : World} {t : List S28} {m i : Nat} {W w' : World} {ob : Nat} {ok : Nat → Prop} {o oo : List S28} {v' : Value} {z : Int} (hz : z = ((o.length + cntB t i : Nat) : Int) - 1) (hO : Out w0 w' ob ok v' oo) (ho : oo = o ++ lst t m i o.length) (hF : Fr W w' ob ok) : InP w0 t m i W ob ok o (.returned (.int .i64 z)) w' := by
  subst hz ho
  exact ⟨v', rfl, hO, hF⟩

set_option maxHeartbeats 16000000 in
set_option maxRecDepth 100000 in
theorem into_calls (w0 : World) (t : List S28) (ps : Nat → Nat) (N : Nat) (hT : Rf w0 t N ps) (htr : treeB t = true) (hn : t.length ≤ 4096) (ob : Nat) :
    ∀ (m i : Nat), i < m → i < t.length → i < N → ∀ (W : World) (ok : Nat → Prop) (o : List S28) (v : Value), Out w0 W ob ok v o → (∀ k, W.heap.size ≤ k → ok k) → o.length + cntB t i ≤ 100000 →
      Calls Tryd.prog 46 #[ptrV (ps i), ptrV ob] W (InP w0 t m i W ob ok o) := by
  intro m
  induction m with
  | zero => intro i hi; omega
  | succ m ih =>
    intro i him hi hiN W ok o v hO hok hlen
    have HIH := Go.Lib.hid ih
    have HI := Go.Lib.hid hi
    have HIM := Go.Lib.hid him
    have HIN := Go.Lib.hid hiN
    have HN := Go.Lib.hid hn
    have HO := Go.Lib.hid hO
    have HLEN := Go.Lib.hid hlen
    have HC := Go.Lib.hid (show Ic w0 W ob ok W.heap.size from ⟨hO.lo, blk_lt hO.bx, hO.bl.size, Nat.le_refl _, hok⟩)
    obtain ⟨A2, c2, A3, n3, c3, A4, c4, A5, c5, hN⟩ := hT i hi hiN
    have HNR := Go.Lib.hid hN
    have HKD := Go.Lib.hid (fun k (hk : k ∈ (t[i]'hi).f3) => badK_mem (rB_at (treeB_parts htr).2.1 i hi) hk)
    have HKL := Go.Lib.hid (kids_len htr hi)
    have HCE := Go.Lib.hid (cntB_eq htr hi)
    have HCK := Go.Lib.hid (fun (k : Nat) (hk : k < (t[i]'hi).f3.length) (c : Nat) (hc : (t[i]'hi).f3[k]'hk = (c : Int)) => cntK_succ htr hi hk hc)
    have HLL := Go.Lib.hid (fun (c b : Nat) (hcm : c < m) (hct : c < t.length) => (lst_len htr m c b hcm hct).1)
    have HLK := Go.Lib.hid (show ∀ j, j ≤ (t[i]'hi).f3.length → (kfold (lst t m) o.length ((t[i]'hi).f3.take j)).1.length = cntK t i j from by
      have h := (lst_len htr (m + 1) i o.length him hi).2
      rw [rdT_nat t i hi] at h
      exact h)
    have HLS := Go.Lib.hid (lst_succ t m i o.length hi)
    have HMO := Go.Lib.hid (fun j j' (h : j ≤ j') (h2 : j' ≤ (t[i]'hi).f3.length) => show cntK t i j ≤ cntK t i j' from by
      have hh := (lst_len htr (m + 1) i o.length him hi).2
      rw [rdT_nat t i hi] at hh
      obtain ⟨d, rfl⟩ : ∃ d, j' = j + d := ⟨j' - j, by omega⟩
      clear h
      induction d with
      | zero => exact Nat.le_refl _
      | succ d ihd =>
        have hj' : j + d < (t[i]'hi).f3.length := by omega
        have hm := badK_mem (rB_at (treeB_parts htr).2.1 i hi) (List.getElem_mem hj')
        obtain ⟨c, hc⟩ : ∃ c : Nat, (t[i]'hi).f3[j + d]'hj' = (c : Int) := ⟨((t[i]'hi).f3[j + d]'hj').toNat, by omega⟩
        have h1 := ihd (by omega)
        have h2 := cntK_succ htr hi hj' hc
        rw [← Nat.add_assoc, h2]
        omega)
    generalize t[i]'hi = x at hN HNR HKD HKL HCE HCK HLK HLS HMO
    have hNW := hN.below hO.bl
    obtain ⟨t0, t1, t2, t3, t4, t5⟩ := hNW.nb.cells
    obtain ⟨b, hb⟩ : ∃ b, b = W.heap.size := ⟨_, rfl⟩
    obtain ⟨w1, hw1⟩ : ∃ w1, w1 = W.alloc (.cells #[.int .i64 x.f0, .int .i64 x.f1, .slice A2 x.f2.length c2, .slice none 0 0, .slice A4 x.f4.length c4] 28) := ⟨_, rfl⟩
    have hbl1 : Below W.heap.size W w1 := by rw [hw1]; exact below_alloc (Below.refl _ _) _
    have HI0 := Go.Lib.hid (Iw.start hO (show w1.heap[W.heap.size]? = some (.cells #[.int .i64 x.f0, .int .i64 x.f1, .slice A2 x.f2.length c2, .slice none 0 0, .slice A4 x.f4.length c4] 28 (0, 0)) by
      rw [hw1]; exact blk_new _ _) hbl1)
    have t5' := ((hNW.below hbl1).nb.cells).2.2.2.2.2
    have HW1 := Go.Lib.hid hw1
    have hk9 : (x.f3.length : Int) ≤ 4096 := by have := HKL.out; have := HI.out; have := HN.out; omega
    have hkb9 : (((x.f3.map fun k => ps k.toNat).length : Nat) : Int) ≤ 4096 := by rw [List.length_map]; omega
    rw [← hb] at HI0 HC
    have HBE := Go.Lib.hid hb
    rw [hw1] at t5'
    clear ih him hi hiN hn hN hNW hT hO hok hlen hbl1 hw1 htr hb
    go_enter Tryd.func46, Tryd.ntmps46
    go_wp2_with fail
    rw [← HW1.out, ← HBE.out]
    clear t0 t1 t2 t3 t4 t5 t5' HW1
    go_loopg [18] x.f3.length (fun g_ v18 w' => ∃ (j : Nat) (vk v' : Value), Hid (j + g_ = x.f3.length) ∧ v18 = .int .i64 j ∧ Hid (Iw w0 W w' ob ok b x (.slice A2 x.f2.length c2) (.slice A4 x.f4.length c4) vk v' (kfold (lst t m) o.length (x.f3.take j)).2 (o ++ (kfold (lst t m) o.length (x.f3.take j)).1)))
    case atStart => exact ⟨0, _, _, Go.Lib.hid (by omega), rfl, Go.Lib.hid (by have h := HI0.out; simpa [kfold] using h)⟩
    case round =>
      clear HI0
      obtain ⟨j, vk, v', hj, rfl, hI⟩ := hrel
      obtain ⟨wi, hwi⟩ : ∃ wi : World, wi = wr := ⟨_, rfl⟩
      subst hwi
      by_cases hlt : j < x.f3.length
      · have hltk : (j : Int) < (((x.f3.map fun k => ps k.toNat).length : Nat) : Int) := by rw [List.length_map]; omega
        have hltk' : decide (j < (x.f3.map fun k => ps k.toNat).length) = true := decide_eq_true (by rw [List.length_map]; exact hlt)
        have hltj : (j : Int) < (x.f3.length : Int) := by omega
        have hj0 : (0 : Int) ≤ (j : Int) := by omega
        have HJ := Go.Lib.hid hlt
        have hG5 := HNR.out.g5
        obtain ⟨ad, cs, e_, _, hK, hcell⟩ := Kd.C_get hG5 (0 : Nat) (j : Int) hj0 hltk
        have hK' : cs = [ptrV ((x.f3.map fun k => ps k.toNat).getD (j : Int).toNat 0)] := hK
        subst hK'
        have q0 := hcell 0 _ rfl
        have hk1 : kp.sz = 1 := rfl
        rw [hk1, Int.toNat_natCast, Nat.mul_one, Nat.add_zero, List.getD_eq_getElem?_getD, List.getElem?_map, List.getElem?_eq_getElem hlt] at q0
        cases e_
        obtain ⟨c, hc⟩ : ∃ c : Nat, x.f3[j]'hlt = (c : Int) := ⟨(x.f3[j]'hlt).toNat, by have := HKD.out _ (List.getElem_mem hlt); omega⟩
        have hcb := HKD.out _ (List.getElem_mem hlt)
        rw [hc] at hcb
        simp only [hc, Option.map_some, Option.getD_some, Int.toNat_natCast] at q0
        have HCI := Go.Lib.hid (show c < i by omega)
        have hkt := kfold_take (lst t m) o.length x.f3 j hlt
        have hKL := HLK.out j (by omega)
        have hcs := HCK.out j hlt c hc
        have hmo := HMO.out (j + 1) x.f3.length (by omega) (Nat.le_refl _)
        rw [hc] at hkt
        unfold kstep at hkt
        rw [Int.toNat_natCast] at hkt
        have hks := kfold_len2 (lst t m) o.length (x.f3.take j)
        generalize kfold (lst t m) o.length (x.f3.take j) = K at hI hkt hKL hks
        obtain ⟨os, ks⟩ := K
        simp only at hI hkt hKL hks
        replace q0 := pw_cell_below hI.out.bl q0
        have HID := Go.Lib.hid (hI.out.lift (below_drew (Below.refl _ _)))
        have hll := HLL.out c (o.length + os.length) (by have := HIM.out; omega) (by have := HI.out; omega)
        have HRC := Go.Lib.hid (kid_call HID.out HC.out (HIH.out c (by have := HIM.out; have := HCI.out; omega) (by have := HI.out; have := HCI.out; omega) (by have := HIN.out; have := HCI.out; omega) _ _ _ _ (HID.out.kidOut HC.out) (HID.out.okNew HC.out) (by
          rw [List.length_append, hKL]
          have := HLEN.out; have := HCE.out; omega)))
        obtain ⟨z, hz⟩ : ∃ z : Int, z = (((o ++ os).length + cntB t c : Nat) : Int) - 1 := ⟨_, rfl⟩
        obtain ⟨o2, ho2⟩ : ∃ o2 : List S28, o2 = (o ++ os) ++ lst t m c (o ++ os).length := ⟨_, rfl⟩
        have HK2 := Go.Lib.hid (show (kfold (lst t m) o.length (x.f3.take (j + 1))).2 = ks ++ [z] by rw [hkt, hz, List.length_append, hll])
        have HK1 := Go.Lib.hid (show o ++ (kfold (lst t m) o.length (x.f3.take (j + 1))).1 = o2 by rw [hkt, ho2, List.length_append, List.append_assoc])
        rw [← hz, ← ho2] at HRC
        have HKS := Go.Lib.hid (show ks.length ≤ 4096 by rw [hks, List.length_take]; have := HN.out; have := HKL.out; have := HI.out; omega)
        generalize o ++ os = oo at hI HID HRC
        obtain ⟨⟨-, -, -, n3, -⟩, f3, -, -⟩ := hI.out.cells
        clear hlt hc hcb hG5 hK hcell hk1 hkt hKL hcs hmo hks hll hz ho2
        go_wp2_with fail
        go_region_law (first
          | (refine Kd.R_append_step (Kd.int .i64) (w0 := w0) (W := wn) w0.heap.size (by rfl) (.tmp 23) (.tmp 27) 25 3 (.int .i64 0) 8 rfl Tryd.underlying25 info3 rfl (by decide) (by decide) vk ks z [.int .i64 z] (fun k => W.heap.size ≤ k) (fun _ => False) (by simp [Act.eval, Act.put]) (by simp [Act.eval, Act.put]) rfl (fun _ h => h.elim) (fun k hk => Nat.le_trans HNI.out.fr.1 hk) HNI.out.rk HNI.out.bl HNI.out.bl.size (by have := HKS.out; omega) ?_; intro v9 w9 hr9 hb9 hg9 hat9; obtain ⟨A9, c9, rfl⟩ := Kd.R_slice hr9; have HB9 := Go.Lib.hid (HNI.out.kid HC.out hr9 hb9 hg9 hat9); obtain ⟨g3, gf3⟩ := HNI.out.grownB hg9; clear hr9 hb9 hg9 hat9)
          | (go_simp; go_at_call 46; refine HRC.out.mono ?_; rintro e wn ⟨vn, rfl, hn⟩; have HNI := Go.Lib.hid hn; obtain ⟨⟨-, -, -, z3, -⟩, zf3, -, -⟩ := hn.cells; have Z3 : ∀ o, (wn.alloc o).cell? ⟨b, 3, none⟩ = some vk := (fun o => (HNI.out.lift (below_alloc (Below.refl _ _) o)).cells.1.2.2.2.1); clear hn))
        all_goals
          go_wp2_with fail
          go_roundg (gk - 1)
          case measure => have := hj.out; have := HJ.out; omega
          case rel => exact ⟨j + 1, .slice A9 (ks.length + 1) c9, vn, Go.Lib.hid (by have := hj.out; have := HJ.out; omega), by go_num, Go.Lib.hid (by have h := HB9.out; rw [List.length_append, List.length_singleton] at h; rw [HK2.out, HK1.out]; exact h)⟩
      · have hd : decide ((j : Int) < (((x.f3.map fun k => ps k.toNat).length : Nat) : Int)) = false := decide_eq_false (by rw [List.length_map]; omega)
        have hd2 : decide (j < (x.f3.map fun k => ps k.toNat).length) = false := decide_eq_false (by rw [List.length_map]; exact hlt)
        have hd3 : decide ((j : Int) < (x.f3.length : Int)) = false := decide_eq_false (by omega)
        have hd4 : decide (j < x.f3.length) = false := decide_eq_false hlt
        rw [show x.f3.take j = x.f3 from List.take_of_length_le (by omega)] at hI
        have hKL := HLK.out x.f3.length (Nat.le_refl _)
        rw [List.take_length] at hKL
        have hks := kfold_len2 (lst t m) o.length x.f3
        have hls := HLS.out
        generalize kfold (lst t m) o.length x.f3 = K at hI hKL hks hls
        obtain ⟨os, ks⟩ := K
        simp only at hI hKL hks hls
        have HID := Go.Lib.hid (hI.out.lift (below_drew (Below.refl _ _)))
        have HEM := Go.Lib.hid (HID.out.elem HNR.out.l2 HNR.out.g2 HNR.out.l4 HNR.out.g4)
        have HEO := Go.Lib.hid (HID.out.elemOk HC.out)
        obtain ⟨⟨y0, y1, y2, y3, y4⟩, f3, no, fo⟩ := hI.out.cells
        have NO : ∀ o, (wi.alloc o).cell? ⟨ob, 0, none⟩ = some v' := fun o => (hI.out.lift (below_alloc (Below.refl _ _) o)).cells.2.2.1
        have HOL := Go.Lib.hid (show (o ++ os).length ≤ 100000 by rw [List.length_append, hKL]; have := HLEN.out; have := HCE.out; omega)
        have HOZ := Go.Lib.hid (show ((o ++ os).length : Int) + 1 - 1 = ((o.length + cntB t i : Nat) : Int) - 1 by rw [List.length_append, hKL]; have := HCE.out; omega)
        have HOO := Go.Lib.hid (show (o ++ os) ++ [⟨x.f0, x.f1, x.f2, ks, x.f4⟩] = o ++ lst t (m + 1) i o.length by rw [hls, List.append_assoc])
        generalize o ++ os = oo at hI HID HEO HOL HOZ HOO
        clear hlt hKL hks hls
        go_wp2_with fail
        go_region_law (refine Kd.R_append_step (kdo w0) (w0 := w0) (W := wi.drew) w0.heap.size (by rfl) (.tmp 34) (.tmp 36) 22 28 (.agg #[.int .i64 0, .int .i64 0, .slice none 0 0, .slice none 0 0, .slice none 0 0]) 88 rfl Tryd.underlying22 info28 rfl (show 0 < 5 from Nat.succ_pos 4) (by decide) v' oo ⟨x.f0, x.f1, x.f2, ks, x.f4⟩ [.int .i64 x.f0, .int .i64 x.f1, .slice A2 x.f2.length c2, vk, .slice A4 x.f4.length c4] ok (fun k => vk.ownBlock = some k) (by simp [Act.eval, Act.put]) (by simp [Act.eval, Act.put]) HEM.out HEO.out (fun k hk => HC.out.ok k (Nat.le_trans HID.out.fr.1 hk)) HID.out.outR HID.out.bl HID.out.bl.size (by have := HOL.out; omega) ?_; intro v9 w9 hr9 hb9 hg9 hat9; obtain ⟨A9, c9, rfl⟩ := Kd.R_slice hr9; obtain ⟨hO9, hF9⟩ := HID.out.done HC.out hr9 hb9 hg9; have HO9 := Go.Lib.hid hO9; have HF9 := Go.Lib.hid hF9; obtain ⟨g3, gf3⟩ := HID.out.grownO hg9; clear hr9 hb9 hg9 hat9 hO9 hF9)
        all_goals
          go_wp2_with fail
          go_ret
          exact InP.mk (by have h1 := HOL.out; have h2 := HOZ.out; rw [wrap_small (by omega) (by omega)]; omega) (by have h := HO9.out; rw [List.length_append, List.length_singleton] at h; exact h) HOO.out (by have h := HF9.out; rw [List.length_append, List.length_singleton] at h; exact h)
end Go.Proofs.YtjhinklijopobaaDoor.Co
