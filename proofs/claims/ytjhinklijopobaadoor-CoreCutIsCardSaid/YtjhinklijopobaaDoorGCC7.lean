import Derived.Test.YtjhinklijopobaaDoorGCC6
import Derived.Sort.OwnSorted
import Derived.Sort.Grow
import Derived.Lib.OwnBridge
import Derived.Test.YtjhinklijopobaaDoorShelf
namespace Go.Proofs.YtjhinklijopobaaDoor.Co
open Go.RowKit Go.Proofs.YtjhinklijopobaaDoor.PCoreChecks Go.Proofs.YtjhinklijopobaaDoorW.PrintWords Go.Proofs.YtjhinklijopobaaDoorW.PrintLast Go.Proofs.YtjhinklijopobaaDoorW.PrintMore
set_option linter.unusedVariables false
set_option linter.unusedSimpArgs false

set_option maxRecDepth 100000 in
theorem Mi.run {w : World} {mb : Nat} {f : Int → Int} (h : Mi w mb f) {z : Int} (hz : (Lit.int .i64 z).wf = true) : (Instr.lookup 99 (.map (some mb)) (.int .i64 z) false).run Tryd.prog w = .ok (.int .i64 (f z)) w := by
  obtain ⟨D, h1, h2, h3⟩ := h
  obtain ⟨c, hrun, hat, _⟩ := h1.lookup_int kd3 Tryd.underlying99 Tryd.underlying3 (zero3 w) (key3 hz)
  have e : c = f z := by
    have := hat.symm.trans (h2 z)
    injection this with this
    exact lit_inj this
  rw [e] at hrun
  exact hrun

set_option maxHeartbeats 16000000 in
set_option maxRecDepth 100000 in
theorem free_calls (w0 : World) (t : List S28) (ps : Nat → Nat) (N : Nat) (hT : Ft w0 t N ps) (htr : treeB t = true) (hn : t.length ≤ 4096) (hok : ∀ x ∈ t, Ok x) (mb ob : Nat) (hmo : mb ≠ ob) (hm : w0.heap.size ≤ mb) (ho : w0.heap.size ≤ ob) :
    ∀ (m i : Nat), i < m → i < t.length → i < N → ∀ (W : World) (f : Int → Int) (S : Int → Prop), Fs w0 W mb ob f S → (∀ z, 0 ≤ f z ∧ f z ≤ ((t.length - i : Nat) : Int) * 16) →
      Calls Tryd.prog 79 #[ptrV (ps i), .map (some mb), .map (some ob)] W (FrP w0 t i mb ob f S) := by
  intro m
  induction m with
  | zero => intro i hi; omega
  | succ m ih =>
    intro i him hi hiN W f S hfs hbf
    have HIH := Go.Lib.hid ih
    have HTR := Go.Lib.hid htr
    have HMO := Go.Lib.hid hmo
    have HM := Go.Lib.hid hm
    have HO := Go.Lib.hid ho
    have HI := Go.Lib.hid hi
    have HIM := Go.Lib.hid him
    have HIN := Go.Lib.hid hiN
    have HBF := Go.Lib.hid hbf
    have HN := Go.Lib.hid hn
    obtain ⟨A2, c2, A3, c3, A4, c4, hN⟩ := hT i hi hiN
    have HNR := Go.Lib.hid hN
    have HOK := Go.Lib.hid (hok _ (List.getElem_mem hi))
    have HKD := Go.Lib.hid (fun k (hk : k ∈ (t[i]'hi).f3) => badK_mem (rB_at (treeB_parts htr).2.1 i hi) hk)
    have HKL := Go.Lib.hid (kids_len htr hi)
    have HFV := Go.Lib.hid (fun z => Fv_iff (t := t) hi (z := z))
    have HFK := Go.Lib.hid (fun (k : Nat) (hk : k < (t[i]'hi).f3.length) (c : Nat) (hc : (t[i]'hi).f3[k]'hk = (c : Int)) (z : Int) => FK.succ hi hk hc (z := z))
    generalize t[i]'hi = x at hN HNR HOK HKD HKL HFV HFK
    obtain ⟨t0, t1, t2, t3, t4⟩ := (hN.tb.below hfs.bl).cells
    have HFS := Go.Lib.hid hfs
    clear ih htr hmo hm ho hi him hiN hbf hn hN hT hok hfs t2 t4
    obtain ⟨op, hop⟩ : ∃ op, op = x.f0 := ⟨_, rfl⟩
    obtain ⟨n, hnn⟩ : ∃ n, n = x.f1 := ⟨_, rfl⟩
    rw [← hop] at t0
    rw [← hnn] at t1
    have HOP := Go.Lib.hid hop
    have HNN := Go.Lib.hid hnn
    clear hop hnn
    have hcase : (op = 0 ∧ f n = 0) ∨ (op = 0 ∧ f n ≠ 0) ∨ op ≠ 0 := by
      by_cases h : op = 0
      · by_cases h2 : f n = 0
        · exact Or.inl ⟨h, h2⟩
        · exact Or.inr (Or.inl ⟨h, h2⟩)
      · exact Or.inr (Or.inr h)
    rcases hcase with ⟨h0, h1⟩ | ⟨h0, h1⟩ | h0
    · have e0 : (op == 0) = true := beq_iff_eq.2 h0
      have e1 : (f n == 0) = true := beq_iff_eq.2 h1
      have HID := Go.Lib.hid (show idz n by rw [HNN.out]; exact HOK.out.var (by rw [← HOP.out]; exact h0))
      have HS1 := Go.Lib.hid (show ∀ z, (z = n ∨ S z) ↔ (S z ∨ (op = 0 ∧ z = n ∧ f z = 0)) from fun z => by
        constructor
        · rintro (rfl | h)
          · exact Or.inr ⟨h0, rfl, h1⟩
          · exact Or.inl h
        · rintro (h | ⟨_, rfl, _⟩)
          · exact Or.inr h
          · exact Or.inl rfl)
      clear h0 h1
      have hrun := HFS.out.m.run (idz_wf HID.out)
      go_enter Tryd.func79, Tryd.ntmps79
      go_wp2_with (first | (at_mapUpdate; refine wp_out _ rfl _ _ _ rfl ob S rfl HFS.out.s n rfl HID.out rfl ?_; intro W1 hs1 hg1; have HF1 := Go.Lib.hid ((HFS.out.sets HMO.out HO.out hs1 hg1).congr (fun _ => rfl) HS1.out); have t3' := ((HNR.out.tb.below HF1.out.bl).cells).2.2.2.1; clear t0 t1 t3 hs1 hg1) | fail)
      clear t3' hrun e0 e1
      have hk9 : (x.f3.length : Int) ≤ 4096 := by have := HKL.out; have := HI.out; have := HN.out; omega
      have hkb9 : (((x.f3.map fun k => ps k.toNat).length : Nat) : Int) ≤ 4096 := by rw [List.length_map]; omega
      go_loopg [38] x.f3.length (fun g_ v38 w' => ∃ k : Nat, Hid (k + g_ = x.f3.length) ∧ v38 = .int .i64 k ∧ Hid (Fs w0 w' mb ob f (fun z => (S z ∨ (op = 0 ∧ z = n ∧ f z = 0)) ∨ (FK t i k z ∧ f z = 0))))
      case atStart => exact ⟨0, Go.Lib.hid (by omega), rfl, Go.Lib.hid (HF1.out.congr (fun _ => rfl) (fun z => ⟨Or.inl, fun h => h.elim id (fun h => absurd h.1 FK.zero)⟩))⟩
      case round =>
        clear HF1 HFS
        obtain ⟨k, hk, rfl, hfs⟩ := hrel
        obtain ⟨wo, hwo⟩ : ∃ wo : World, wo = wr := ⟨_, rfl⟩
        subst hwo
        obtain ⟨ga, hga⟩ : ∃ ga : Nat, ga = gk := ⟨_, rfl⟩
        subst hga
        by_cases hlt : k < x.f3.length
        · have hltk : (k : Int) < (((x.f3.map fun k => ps k.toNat).length : Nat) : Int) := by rw [List.length_map]; omega
          have hltk' : decide (k < (x.f3.map fun k => ps k.toNat).length) = true := decide_eq_true (by rw [List.length_map]; exact hlt)
          have hk0 : (0 : Int) ≤ (k : Int) := by omega
          have HK := Go.Lib.hid hlt
          have hG3 := HNR.out.g3
          obtain ⟨ad, cs, e_, _, hK, hcell⟩ := Kd.C_get hG3 (0 : Nat) (k : Int) hk0 hltk
          have hK' : cs = [ptrV ((x.f3.map fun k => ps k.toNat).getD (k : Int).toNat 0)] := hK
          subst hK'
          have q0 := hcell 0 _ rfl
          have hk1 : kp.sz = 1 := rfl
          rw [hk1, Int.toNat_natCast, Nat.mul_one, Nat.add_zero, List.getD_eq_getElem?_getD, List.getElem?_map, List.getElem?_eq_getElem hlt] at q0
          cases e_
          obtain ⟨c, hc⟩ : ∃ c : Nat, x.f3[k]'hlt = (c : Int) := ⟨(x.f3[k]'hlt).toNat, by have := HKD.out _ (List.getElem_mem hlt); omega⟩
          have hcb := HKD.out _ (List.getElem_mem hlt)
          rw [hc] at hcb
          simp only [hc, Option.map_some, Option.getD_some, Int.toNat_natCast] at q0
          have HFKS := Go.Lib.hid (HFK.out k hlt c hc)
          have HCI := Go.Lib.hid (show c < i by omega)
          replace q0 := pw_cell_below hfs.out.bl q0
          have HBC := Go.Lib.hid (bound_calls x HOK.out k hlt (by omega) (ps i) _ A2 (some ad) A4 c2 c3 c4 w0 wo hfs.out.bl HNR.out)
          have HLL := Go.Lib.hid (scope_len HOK.out.fit k)
          have HLI := Go.Lib.hid (scope_ids HOK.out k)
          clear hlt hc hcb hG3 hK hcell hk1
          generalize scopeOf x k = l at HBC HLL HLI HFKS
          have hl9 : (l.length : Int) ≤ 16 := by have := HLL.out; omega
          go_wp2_with fail
          refine HBC.out.mono ?_
          rintro e w' ⟨A, cA, rfl, hCA, rfl⟩
          have HCA := Go.Lib.hid hCA
          clear hCA HBC q0
          go_wp2_with fail
          go_loopg [48] l.length (fun g_ v48 w' => ∃ j : Nat, Hid (j + g_ = l.length) ∧ v48 = .int .i64 j ∧ Hid (Fs w0 w' mb ob (addC f (l.take j)) (fun z => (S z ∨ (op = 0 ∧ z = n ∧ f z = 0)) ∨ (FK t i k z ∧ f z = 0))))
          case atStart => exact ⟨0, Go.Lib.hid (by omega), rfl, Go.Lib.hid (hfs.out.congr (fun z => (addC_nil f z).symm) (fun _ => Iff.rfl))⟩
          case round =>
            clear hfs
            obtain ⟨j, hj, rfl, hfs⟩ := hrel
            obtain ⟨wi, hwi⟩ : ∃ wi : World, wi = wr := ⟨_, rfl⟩
            subst hwi
            by_cases hlt : j < l.length
            · have hltj : (j : Int) < (l.length : Int) := by omega
              have hj0 : (0 : Int) ≤ (j : Int) := by omega
              have HJ := Go.Lib.hid hlt
              obtain ⟨ad5, e_, p0⟩ := Kd.at_int (Kd.C_below HCA.out hfs.out.bl) (j : Int) hj0 hltj
              cases e_
              rw [rd_nat l j hlt, Int.toNat_natCast] at p0
              have HUP := Go.Lib.hid (addC_up f l j hlt)
              have HZI := Go.Lib.hid (HLI.out _ (List.getElem_mem hlt))
              have hab := addC_bound HBF.out (l := l.take j) (by rw [List.length_take]; have := HLL.out; omega) (l[j]'hlt)
              generalize l[j]'hlt = z at p0 HUP HZI hab
              have hv0 := hab.1
              have hv1 : addC f (l.take j) z ≤ 70000 := by have h1 := hab.2; have h2 := HN.out; omega
              have HWF := Go.Lib.hid (show (Lit.int .i64 (addC f (l.take j) z + 1)).wf = true from wf64 (by omega) (by omega))
              clear hlt hab
              go_wp2_with (first | (at_lookup; refine wp_get _ rfl _ _ rfl mb _ rfl hfs.out.m z rfl (idz_wf HZI.out) ?_) | (at_mapUpdate; refine wp_set _ rfl _ _ _ rfl mb _ rfl hfs.out.m z _ rfl HZI.out rfl HWF.out ?_; intro w5 hs5 hg5; have HF5 := Go.Lib.hid ((hfs.out.setm HMO.out HM.out hs5 hg5).congr HUP.out (fun _ => Iff.rfl)); clear hs5 hg5) | fail)
              go_roundg (gk - 1)
              case measure => have := hj.out; have := HJ.out; omega
              case rel => exact ⟨j + 1, Go.Lib.hid (by have := hj.out; have := HJ.out; omega), by go_num, HF5⟩
            · have hd : decide ((j : Int) < (l.length : Int)) = false := decide_eq_false (by omega)
              have hd2 : decide (j < l.length) = false := decide_eq_false hlt
              have HFA := Go.Lib.hid (show Fs w0 wi mb ob (addC f l) (fun z => (S z ∨ (op = 0 ∧ z = n ∧ f z = 0)) ∨ (FK t i k z ∧ f z = 0)) by have h := hfs.out; rw [List.take_of_length_le (by omega)] at h; exact h)
              have HRC := Go.Lib.hid (HIH.out c (by have := HCI.out; have := HIM.out; omega) (by have := HCI.out; have := HI.out; omega) (by have := HCI.out; have := HIN.out; omega) wi _ _ HFA.out (fun z => by
                have h1 := addC_bound HBF.out (l := l) (by have := HLL.out; omega) z
                have h2 := HCI.out
                have h3 := HI.out
                exact ⟨h1.1, by omega⟩))
              clear hlt hfs hj
              go_wp2_with fail
              refine HRC.out.mono ?_
              rintro e w7 ⟨rfl, hf7⟩
              have HF7 := Go.Lib.hid (hf7.congr (T := fun z => (S z ∨ (op = 0 ∧ z = n ∧ f z = 0)) ∨ (FK t i (k + 1) z ∧ f z = 0)) (fun z => show addC f l z = addC f (l.drop 0) z by rw [List.drop_zero]) (fun z => by
                have h1 := addC_zero (fun z => (HBF.out z).1) l z
                have h2 := HFKS.out z
                constructor
                · rintro (h | ⟨h3, h4⟩)
                  · rcases h with h | ⟨h, h5⟩
                    · exact Or.inl h
                    · exact Or.inr ⟨h2.2 (Or.inl h), h5⟩
                  · have h5 := h1.1 h4
                    exact Or.inr ⟨h2.2 (Or.inr ⟨h5.1, h3⟩), h5.2⟩
                · rintro (h | ⟨h3, h4⟩)
                  · exact Or.inl (Or.inl h)
                  · rcases h2.1 h3 with h | ⟨h, h5⟩
                    · exact Or.inl (Or.inr ⟨h, h4⟩)
                    · exact Or.inr ⟨h5, h1.2 ⟨h, h4⟩⟩))
              clear hf7 HRC HFA
              go_wp2_with fail
              go_loopg [63] l.length (fun g_ v63 w' => ∃ j : Nat, Hid (j + g_ = l.length) ∧ v63 = .int .i64 j ∧ Hid (Fs w0 w' mb ob (addC f (l.drop j)) (fun z => (S z ∨ (op = 0 ∧ z = n ∧ f z = 0)) ∨ (FK t i (k + 1) z ∧ f z = 0))))
              case atStart => exact ⟨0, Go.Lib.hid (by omega), rfl, HF7⟩
              case round =>
                clear HF7
                obtain ⟨j, hj, rfl, hfs⟩ := hrel
                obtain ⟨wi, hwi⟩ : ∃ wi : World, wi = wr := ⟨_, rfl⟩
                subst hwi
                by_cases hlt : j < l.length
                · have hltj : (j : Int) < (l.length : Int) := by omega
                  have hj0 : (0 : Int) ≤ (j : Int) := by omega
                  have HJ := Go.Lib.hid hlt
                  obtain ⟨ad5, e_, p0⟩ := Kd.at_int (Kd.C_below HCA.out hfs.out.bl) (j : Int) hj0 hltj
                  cases e_
                  rw [rd_nat l j hlt, Int.toNat_natCast] at p0
                  have HUP := Go.Lib.hid (addC_down f l j hlt)
                  have HZI := Go.Lib.hid (HLI.out _ (List.getElem_mem hlt))
                  have hab := addC_bound HBF.out (l := l.drop j) (by rw [List.length_drop]; have := HLL.out; omega) (l[j]'hlt)
                  generalize l[j]'hlt = z at p0 HUP HZI hab
                  have hv0 := hab.1
                  have hv1 : addC f (l.drop j) z ≤ 70000 := by have h1 := hab.2; have h2 := HN.out; omega
                  have HWF := Go.Lib.hid (show (Lit.int .i64 (addC f (l.drop j) z - 1)).wf = true from wf64 (by omega) (by omega))
                  clear hlt hab
                  go_wp2_with (first | (at_lookup; refine wp_get _ rfl _ _ rfl mb _ rfl hfs.out.m z rfl (idz_wf HZI.out) ?_) | (at_mapUpdate; refine wp_set _ rfl _ _ _ rfl mb _ rfl hfs.out.m z _ rfl HZI.out rfl HWF.out ?_; intro w5 hs5 hg5; have HF5 := Go.Lib.hid ((hfs.out.setm HMO.out HM.out hs5 hg5).congr HUP.out (fun _ => Iff.rfl)); clear hs5 hg5) | fail)
                  go_roundg (gk - 1)
                  case measure => have := hj.out; have := HJ.out; omega
                  case rel => exact ⟨j + 1, Go.Lib.hid (by have := hj.out; have := HJ.out; omega), by go_num, HF5⟩
                · have hd : decide ((j : Int) < (l.length : Int)) = false := decide_eq_false (by omega)
                  have hd2 : decide (j < l.length) = false := decide_eq_false hlt
                  have HFE := Go.Lib.hid (hfs.out.congr (g := f) (fun z => by rw [List.drop_of_length_le (by omega)]; exact addC_nil f z) (fun _ => Iff.rfl))
                  clear hlt hfs hj
                  go_wp2_with fail
                  go_roundg (ga - 1)
                  case measure => have := hk.out; have := HK.out; omega
                  case rel => exact ⟨k + 1, Go.Lib.hid (by have := hk.out; have := HK.out; omega), by go_num, HFE⟩
        · have hd : decide ((k : Int) < (((x.f3.map fun k => ps k.toNat).length : Nat) : Int)) = false := decide_eq_false (by rw [List.length_map]; omega)
          have hd2 : decide (k < (x.f3.map fun k => ps k.toNat).length) = false := decide_eq_false (by rw [List.length_map]; exact hlt)
          have hd3 : decide ((k : Int) < (x.f3.length : Int)) = false := decide_eq_false (by omega)
          have hd4 : decide (k < x.f3.length) = false := decide_eq_false hlt
          have HE := Go.Lib.hid (show FrP w0 t i mb ob f S (.returned (.tuple #[])) wo from ⟨rfl, hfs.out.congr (fun _ => rfl) (fun z => by
            have h1 := HFV.out z
            rw [← HOP.out, ← HNN.out] at h1
            rw [show k = x.f3.length by have := hk.out; omega]
            constructor
            · rintro ((h | ⟨h2, h3, h4⟩) | ⟨h2, h3⟩)
              · exact Or.inl h
              · exact Or.inr ⟨h1.2 (Or.inl ⟨h2, h3⟩), h4⟩
              · exact Or.inr ⟨h1.2 (Or.inr h2), h3⟩
            · rintro (h | ⟨h2, h3⟩)
              · exact Or.inl (Or.inl h)
              · rcases h1.1 h2 with ⟨h4, h5⟩ | h4
                · exact Or.inl (Or.inr ⟨h4, h5, h3⟩)
                · exact Or.inr ⟨h4, h3⟩)⟩)
          clear hlt hfs hk
          go_wp2_with fail
          refine bodyPost_end (results_none rfl _ _ _) rfl ?_
          exact HE.out
    · have e0 : (op == 0) = true := beq_iff_eq.2 h0
      have e1 : (f n == 0) = false := beq_eq_false_iff_ne.2 h1
      have HID := Go.Lib.hid (show idz n by rw [HNN.out]; exact HOK.out.var (by rw [← HOP.out]; exact h0))
      have HF1 := Go.Lib.hid (HFS.out.congr (T := fun z => S z ∨ (op = 0 ∧ z = n ∧ f z = 0)) (fun _ => rfl) (fun z => by
        constructor
        · exact Or.inl
        · rintro (h | ⟨_, rfl, h⟩)
          · exact h
          · exact absurd h h1))
      clear h0 h1
      have hrun := HFS.out.m.run (idz_wf HID.out)
      go_enter Tryd.func79, Tryd.ntmps79
      go_wp2_with fail
      clear t0 t1 t3 hrun e0 e1
      have hk9 : (x.f3.length : Int) ≤ 4096 := by have := HKL.out; have := HI.out; have := HN.out; omega
      have hkb9 : (((x.f3.map fun k => ps k.toNat).length : Nat) : Int) ≤ 4096 := by rw [List.length_map]; omega
      go_loopg [38] x.f3.length (fun g_ v38 w' => ∃ k : Nat, Hid (k + g_ = x.f3.length) ∧ v38 = .int .i64 k ∧ Hid (Fs w0 w' mb ob f (fun z => (S z ∨ (op = 0 ∧ z = n ∧ f z = 0)) ∨ (FK t i k z ∧ f z = 0))))
      case atStart => exact ⟨0, Go.Lib.hid (by omega), rfl, Go.Lib.hid (HF1.out.congr (fun _ => rfl) (fun z => ⟨Or.inl, fun h => h.elim id (fun h => absurd h.1 FK.zero)⟩))⟩
      case round =>
        clear HF1 HFS
        obtain ⟨k, hk, rfl, hfs⟩ := hrel
        obtain ⟨wo, hwo⟩ : ∃ wo : World, wo = wr := ⟨_, rfl⟩
        subst hwo
        obtain ⟨ga, hga⟩ : ∃ ga : Nat, ga = gk := ⟨_, rfl⟩
        subst hga
        by_cases hlt : k < x.f3.length
        · have hltk : (k : Int) < (((x.f3.map fun k => ps k.toNat).length : Nat) : Int) := by rw [List.length_map]; omega
          have hltk' : decide (k < (x.f3.map fun k => ps k.toNat).length) = true := decide_eq_true (by rw [List.length_map]; exact hlt)
          have hk0 : (0 : Int) ≤ (k : Int) := by omega
          have HK := Go.Lib.hid hlt
          have hG3 := HNR.out.g3
          obtain ⟨ad, cs, e_, _, hK, hcell⟩ := Kd.C_get hG3 (0 : Nat) (k : Int) hk0 hltk
          have hK' : cs = [ptrV ((x.f3.map fun k => ps k.toNat).getD (k : Int).toNat 0)] := hK
          subst hK'
          have q0 := hcell 0 _ rfl
          have hk1 : kp.sz = 1 := rfl
          rw [hk1, Int.toNat_natCast, Nat.mul_one, Nat.add_zero, List.getD_eq_getElem?_getD, List.getElem?_map, List.getElem?_eq_getElem hlt] at q0
          cases e_
          obtain ⟨c, hc⟩ : ∃ c : Nat, x.f3[k]'hlt = (c : Int) := ⟨(x.f3[k]'hlt).toNat, by have := HKD.out _ (List.getElem_mem hlt); omega⟩
          have hcb := HKD.out _ (List.getElem_mem hlt)
          rw [hc] at hcb
          simp only [hc, Option.map_some, Option.getD_some, Int.toNat_natCast] at q0
          have HFKS := Go.Lib.hid (HFK.out k hlt c hc)
          have HCI := Go.Lib.hid (show c < i by omega)
          replace q0 := pw_cell_below hfs.out.bl q0
          have HBC := Go.Lib.hid (bound_calls x HOK.out k hlt (by omega) (ps i) _ A2 (some ad) A4 c2 c3 c4 w0 wo hfs.out.bl HNR.out)
          have HLL := Go.Lib.hid (scope_len HOK.out.fit k)
          have HLI := Go.Lib.hid (scope_ids HOK.out k)
          clear hlt hc hcb hG3 hK hcell hk1
          generalize scopeOf x k = l at HBC HLL HLI HFKS
          have hl9 : (l.length : Int) ≤ 16 := by have := HLL.out; omega
          go_wp2_with fail
          refine HBC.out.mono ?_
          rintro e w' ⟨A, cA, rfl, hCA, rfl⟩
          have HCA := Go.Lib.hid hCA
          clear hCA HBC q0
          go_wp2_with fail
          go_loopg [48] l.length (fun g_ v48 w' => ∃ j : Nat, Hid (j + g_ = l.length) ∧ v48 = .int .i64 j ∧ Hid (Fs w0 w' mb ob (addC f (l.take j)) (fun z => (S z ∨ (op = 0 ∧ z = n ∧ f z = 0)) ∨ (FK t i k z ∧ f z = 0))))
          case atStart => exact ⟨0, Go.Lib.hid (by omega), rfl, Go.Lib.hid (hfs.out.congr (fun z => (addC_nil f z).symm) (fun _ => Iff.rfl))⟩
          case round =>
            clear hfs
            obtain ⟨j, hj, rfl, hfs⟩ := hrel
            obtain ⟨wi, hwi⟩ : ∃ wi : World, wi = wr := ⟨_, rfl⟩
            subst hwi
            by_cases hlt : j < l.length
            · have hltj : (j : Int) < (l.length : Int) := by omega
              have hj0 : (0 : Int) ≤ (j : Int) := by omega
              have HJ := Go.Lib.hid hlt
              obtain ⟨ad5, e_, p0⟩ := Kd.at_int (Kd.C_below HCA.out hfs.out.bl) (j : Int) hj0 hltj
              cases e_
              rw [rd_nat l j hlt, Int.toNat_natCast] at p0
              have HUP := Go.Lib.hid (addC_up f l j hlt)
              have HZI := Go.Lib.hid (HLI.out _ (List.getElem_mem hlt))
              have hab := addC_bound HBF.out (l := l.take j) (by rw [List.length_take]; have := HLL.out; omega) (l[j]'hlt)
              generalize l[j]'hlt = z at p0 HUP HZI hab
              have hv0 := hab.1
              have hv1 : addC f (l.take j) z ≤ 70000 := by have h1 := hab.2; have h2 := HN.out; omega
              have HWF := Go.Lib.hid (show (Lit.int .i64 (addC f (l.take j) z + 1)).wf = true from wf64 (by omega) (by omega))
              clear hlt hab
              go_wp2_with (first | (at_lookup; refine wp_get _ rfl _ _ rfl mb _ rfl hfs.out.m z rfl (idz_wf HZI.out) ?_) | (at_mapUpdate; refine wp_set _ rfl _ _ _ rfl mb _ rfl hfs.out.m z _ rfl HZI.out rfl HWF.out ?_; intro w5 hs5 hg5; have HF5 := Go.Lib.hid ((hfs.out.setm HMO.out HM.out hs5 hg5).congr HUP.out (fun _ => Iff.rfl)); clear hs5 hg5) | fail)
              go_roundg (gk - 1)
              case measure => have := hj.out; have := HJ.out; omega
              case rel => exact ⟨j + 1, Go.Lib.hid (by have := hj.out; have := HJ.out; omega), by go_num, HF5⟩
            · have hd : decide ((j : Int) < (l.length : Int)) = false := decide_eq_false (by omega)
              have hd2 : decide (j < l.length) = false := decide_eq_false hlt
              have HFA := Go.Lib.hid (show Fs w0 wi mb ob (addC f l) (fun z => (S z ∨ (op = 0 ∧ z = n ∧ f z = 0)) ∨ (FK t i k z ∧ f z = 0)) by have h := hfs.out; rw [List.take_of_length_le (by omega)] at h; exact h)
              have HRC := Go.Lib.hid (HIH.out c (by have := HCI.out; have := HIM.out; omega) (by have := HCI.out; have := HI.out; omega) (by have := HCI.out; have := HIN.out; omega) wi _ _ HFA.out (fun z => by
                have h1 := addC_bound HBF.out (l := l) (by have := HLL.out; omega) z
                have h2 := HCI.out
                have h3 := HI.out
                exact ⟨h1.1, by omega⟩))
              clear hlt hfs hj
              go_wp2_with fail
              refine HRC.out.mono ?_
              rintro e w7 ⟨rfl, hf7⟩
              have HF7 := Go.Lib.hid (hf7.congr (T := fun z => (S z ∨ (op = 0 ∧ z = n ∧ f z = 0)) ∨ (FK t i (k + 1) z ∧ f z = 0)) (fun z => show addC f l z = addC f (l.drop 0) z by rw [List.drop_zero]) (fun z => by
                have h1 := addC_zero (fun z => (HBF.out z).1) l z
                have h2 := HFKS.out z
                constructor
                · rintro (h | ⟨h3, h4⟩)
                  · rcases h with h | ⟨h, h5⟩
                    · exact Or.inl h
                    · exact Or.inr ⟨h2.2 (Or.inl h), h5⟩
                  · have h5 := h1.1 h4
                    exact Or.inr ⟨h2.2 (Or.inr ⟨h5.1, h3⟩), h5.2⟩
                · rintro (h | ⟨h3, h4⟩)
                  · exact Or.inl (Or.inl h)
                  · rcases h2.1 h3 with h | ⟨h, h5⟩
                    · exact Or.inl (Or.inr ⟨h, h4⟩)
                    · exact Or.inr ⟨h5, h1.2 ⟨h, h4⟩⟩))
              clear hf7 HRC HFA
              go_wp2_with fail
              go_loopg [63] l.length (fun g_ v63 w' => ∃ j : Nat, Hid (j + g_ = l.length) ∧ v63 = .int .i64 j ∧ Hid (Fs w0 w' mb ob (addC f (l.drop j)) (fun z => (S z ∨ (op = 0 ∧ z = n ∧ f z = 0)) ∨ (FK t i (k + 1) z ∧ f z = 0))))
              case atStart => exact ⟨0, Go.Lib.hid (by omega), rfl, HF7⟩
              case round =>
                clear HF7
                obtain ⟨j, hj, rfl, hfs⟩ := hrel
                obtain ⟨wi, hwi⟩ : ∃ wi : World, wi = wr := ⟨_, rfl⟩
                subst hwi
                by_cases hlt : j < l.length
                · have hltj : (j : Int) < (l.length : Int) := by omega
                  have hj0 : (0 : Int) ≤ (j : Int) := by omega
                  have HJ := Go.Lib.hid hlt
                  obtain ⟨ad5, e_, p0⟩ := Kd.at_int (Kd.C_below HCA.out hfs.out.bl) (j : Int) hj0 hltj
                  cases e_
                  rw [rd_nat l j hlt, Int.toNat_natCast] at p0
                  have HUP := Go.Lib.hid (addC_down f l j hlt)
                  have HZI := Go.Lib.hid (HLI.out _ (List.getElem_mem hlt))
                  have hab := addC_bound HBF.out (l := l.drop j) (by rw [List.length_drop]; have := HLL.out; omega) (l[j]'hlt)
                  generalize l[j]'hlt = z at p0 HUP HZI hab
                  have hv0 := hab.1
                  have hv1 : addC f (l.drop j) z ≤ 70000 := by have h1 := hab.2; have h2 := HN.out; omega
                  have HWF := Go.Lib.hid (show (Lit.int .i64 (addC f (l.drop j) z - 1)).wf = true from wf64 (by omega) (by omega))
                  clear hlt hab
                  go_wp2_with (first | (at_lookup; refine wp_get _ rfl _ _ rfl mb _ rfl hfs.out.m z rfl (idz_wf HZI.out) ?_) | (at_mapUpdate; refine wp_set _ rfl _ _ _ rfl mb _ rfl hfs.out.m z _ rfl HZI.out rfl HWF.out ?_; intro w5 hs5 hg5; have HF5 := Go.Lib.hid ((hfs.out.setm HMO.out HM.out hs5 hg5).congr HUP.out (fun _ => Iff.rfl)); clear hs5 hg5) | fail)
                  go_roundg (gk - 1)
                  case measure => have := hj.out; have := HJ.out; omega
                  case rel => exact ⟨j + 1, Go.Lib.hid (by have := hj.out; have := HJ.out; omega), by go_num, HF5⟩
                · have hd : decide ((j : Int) < (l.length : Int)) = false := decide_eq_false (by omega)
                  have hd2 : decide (j < l.length) = false := decide_eq_false hlt
                  have HFE := Go.Lib.hid (hfs.out.congr (g := f) (fun z => by rw [List.drop_of_length_le (by omega)]; exact addC_nil f z) (fun _ => Iff.rfl))
                  clear hlt hfs hj
                  go_wp2_with fail
                  go_roundg (ga - 1)
                  case measure => have := hk.out; have := HK.out; omega
                  case rel => exact ⟨k + 1, Go.Lib.hid (by have := hk.out; have := HK.out; omega), by go_num, HFE⟩
        · have hd : decide ((k : Int) < (((x.f3.map fun k => ps k.toNat).length : Nat) : Int)) = false := decide_eq_false (by rw [List.length_map]; omega)
          have hd2 : decide (k < (x.f3.map fun k => ps k.toNat).length) = false := decide_eq_false (by rw [List.length_map]; exact hlt)
          have hd3 : decide ((k : Int) < (x.f3.length : Int)) = false := decide_eq_false (by omega)
          have hd4 : decide (k < x.f3.length) = false := decide_eq_false hlt
          have HE := Go.Lib.hid (show FrP w0 t i mb ob f S (.returned (.tuple #[])) wo from ⟨rfl, hfs.out.congr (fun _ => rfl) (fun z => by
            have h1 := HFV.out z
            rw [← HOP.out, ← HNN.out] at h1
            rw [show k = x.f3.length by have := hk.out; omega]
            constructor
            · rintro ((h | ⟨h2, h3, h4⟩) | ⟨h2, h3⟩)
              · exact Or.inl h
              · exact Or.inr ⟨h1.2 (Or.inl ⟨h2, h3⟩), h4⟩
              · exact Or.inr ⟨h1.2 (Or.inr h2), h3⟩
            · rintro (h | ⟨h2, h3⟩)
              · exact Or.inl (Or.inl h)
              · rcases h1.1 h2 with ⟨h4, h5⟩ | h4
                · exact Or.inl (Or.inr ⟨h4, h5, h3⟩)
                · exact Or.inr ⟨h4, h3⟩)⟩)
          clear hlt hfs hk
          go_wp2_with fail
          refine bodyPost_end (results_none rfl _ _ _) rfl ?_
          exact HE.out
    · have e0 : (op == 0) = false := beq_eq_false_iff_ne.2 h0
      have HF1 := Go.Lib.hid (HFS.out.congr (T := fun z => S z ∨ (op = 0 ∧ z = n ∧ f z = 0)) (fun _ => rfl) (fun z => by
        constructor
        · exact Or.inl
        · rintro (h | ⟨h, _⟩)
          · exact h
          · exact absurd h h0))
      clear h0
      go_enter Tryd.func79, Tryd.ntmps79
      go_wp2_with fail
      clear t0 t1 t3 e0
      have hk9 : (x.f3.length : Int) ≤ 4096 := by have := HKL.out; have := HI.out; have := HN.out; omega
      have hkb9 : (((x.f3.map fun k => ps k.toNat).length : Nat) : Int) ≤ 4096 := by rw [List.length_map]; omega
      go_loopg [38] x.f3.length (fun g_ v38 w' => ∃ k : Nat, Hid (k + g_ = x.f3.length) ∧ v38 = .int .i64 k ∧ Hid (Fs w0 w' mb ob f (fun z => (S z ∨ (op = 0 ∧ z = n ∧ f z = 0)) ∨ (FK t i k z ∧ f z = 0))))
      case atStart => exact ⟨0, Go.Lib.hid (by omega), rfl, Go.Lib.hid (HF1.out.congr (fun _ => rfl) (fun z => ⟨Or.inl, fun h => h.elim id (fun h => absurd h.1 FK.zero)⟩))⟩
      case round =>
        clear HF1 HFS
        obtain ⟨k, hk, rfl, hfs⟩ := hrel
        obtain ⟨wo, hwo⟩ : ∃ wo : World, wo = wr := ⟨_, rfl⟩
        subst hwo
        obtain ⟨ga, hga⟩ : ∃ ga : Nat, ga = gk := ⟨_, rfl⟩
        subst hga
        by_cases hlt : k < x.f3.length
        · have hltk : (k : Int) < (((x.f3.map fun k => ps k.toNat).length : Nat) : Int) := by rw [List.length_map]; omega
          have hltk' : decide (k < (x.f3.map fun k => ps k.toNat).length) = true := decide_eq_true (by rw [List.length_map]; exact hlt)
          have hk0 : (0 : Int) ≤ (k : Int) := by omega
          have HK := Go.Lib.hid hlt
          have hG3 := HNR.out.g3
          obtain ⟨ad, cs, e_, _, hK, hcell⟩ := Kd.C_get hG3 (0 : Nat) (k : Int) hk0 hltk
          have hK' : cs = [ptrV ((x.f3.map fun k => ps k.toNat).getD (k : Int).toNat 0)] := hK
          subst hK'
          have q0 := hcell 0 _ rfl
          have hk1 : kp.sz = 1 := rfl
          rw [hk1, Int.toNat_natCast, Nat.mul_one, Nat.add_zero, List.getD_eq_getElem?_getD, List.getElem?_map, List.getElem?_eq_getElem hlt] at q0
          cases e_
          obtain ⟨c, hc⟩ : ∃ c : Nat, x.f3[k]'hlt = (c : Int) := ⟨(x.f3[k]'hlt).toNat, by have := HKD.out _ (List.getElem_mem hlt); omega⟩
          have hcb := HKD.out _ (List.getElem_mem hlt)
          rw [hc] at hcb
          simp only [hc, Option.map_some, Option.getD_some, Int.toNat_natCast] at q0
          have HFKS := Go.Lib.hid (HFK.out k hlt c hc)
          have HCI := Go.Lib.hid (show c < i by omega)
          replace q0 := pw_cell_below hfs.out.bl q0
          have HBC := Go.Lib.hid (bound_calls x HOK.out k hlt (by omega) (ps i) _ A2 (some ad) A4 c2 c3 c4 w0 wo hfs.out.bl HNR.out)
          have HLL := Go.Lib.hid (scope_len HOK.out.fit k)
          have HLI := Go.Lib.hid (scope_ids HOK.out k)
          clear hlt hc hcb hG3 hK hcell hk1
          generalize scopeOf x k = l at HBC HLL HLI HFKS
          have hl9 : (l.length : Int) ≤ 16 := by have := HLL.out; omega
          go_wp2_with fail
          refine HBC.out.mono ?_
          rintro e w' ⟨A, cA, rfl, hCA, rfl⟩
          have HCA := Go.Lib.hid hCA
          clear hCA HBC q0
          go_wp2_with fail
          go_loopg [48] l.length (fun g_ v48 w' => ∃ j : Nat, Hid (j + g_ = l.length) ∧ v48 = .int .i64 j ∧ Hid (Fs w0 w' mb ob (addC f (l.take j)) (fun z => (S z ∨ (op = 0 ∧ z = n ∧ f z = 0)) ∨ (FK t i k z ∧ f z = 0))))
          case atStart => exact ⟨0, Go.Lib.hid (by omega), rfl, Go.Lib.hid (hfs.out.congr (fun z => (addC_nil f z).symm) (fun _ => Iff.rfl))⟩
          case round =>
            clear hfs
            obtain ⟨j, hj, rfl, hfs⟩ := hrel
            obtain ⟨wi, hwi⟩ : ∃ wi : World, wi = wr := ⟨_, rfl⟩
            subst hwi
            by_cases hlt : j < l.length
            · have hltj : (j : Int) < (l.length : Int) := by omega
              have hj0 : (0 : Int) ≤ (j : Int) := by omega
              have HJ := Go.Lib.hid hlt
              obtain ⟨ad5, e_, p0⟩ := Kd.at_int (Kd.C_below HCA.out hfs.out.bl) (j : Int) hj0 hltj
              cases e_
              rw [rd_nat l j hlt, Int.toNat_natCast] at p0
              have HUP := Go.Lib.hid (addC_up f l j hlt)
              have HZI := Go.Lib.hid (HLI.out _ (List.getElem_mem hlt))
              have hab := addC_bound HBF.out (l := l.take j) (by rw [List.length_take]; have := HLL.out; omega) (l[j]'hlt)
              generalize l[j]'hlt = z at p0 HUP HZI hab
              have hv0 := hab.1
              have hv1 : addC f (l.take j) z ≤ 70000 := by have h1 := hab.2; have h2 := HN.out; omega
              have HWF := Go.Lib.hid (show (Lit.int .i64 (addC f (l.take j) z + 1)).wf = true from wf64 (by omega) (by omega))
              clear hlt hab
              go_wp2_with (first | (at_lookup; refine wp_get _ rfl _ _ rfl mb _ rfl hfs.out.m z rfl (idz_wf HZI.out) ?_) | (at_mapUpdate; refine wp_set _ rfl _ _ _ rfl mb _ rfl hfs.out.m z _ rfl HZI.out rfl HWF.out ?_; intro w5 hs5 hg5; have HF5 := Go.Lib.hid ((hfs.out.setm HMO.out HM.out hs5 hg5).congr HUP.out (fun _ => Iff.rfl)); clear hs5 hg5) | fail)
              go_roundg (gk - 1)
              case measure => have := hj.out; have := HJ.out; omega
              case rel => exact ⟨j + 1, Go.Lib.hid (by have := hj.out; have := HJ.out; omega), by go_num, HF5⟩
            · have hd : decide ((j : Int) < (l.length : Int)) = false := decide_eq_false (by omega)
              have hd2 : decide (j < l.length) = false := decide_eq_false hlt
              have HFA := Go.Lib.hid (show Fs w0 wi mb ob (addC f l) (fun z => (S z ∨ (op = 0 ∧ z = n ∧ f z = 0)) ∨ (FK t i k z ∧ f z = 0)) by have h := hfs.out; rw [List.take_of_length_le (by omega)] at h; exact h)
              have HRC := Go.Lib.hid (HIH.out c (by have := HCI.out; have := HIM.out; omega) (by have := HCI.out; have := HI.out; omega) (by have := HCI.out; have := HIN.out; omega) wi _ _ HFA.out (fun z => by
                have h1 := addC_bound HBF.out (l := l) (by have := HLL.out; omega) z
                have h2 := HCI.out
                have h3 := HI.out
                exact ⟨h1.1, by omega⟩))
              clear hlt hfs hj
              go_wp2_with fail
              refine HRC.out.mono ?_
              rintro e w7 ⟨rfl, hf7⟩
              have HF7 := Go.Lib.hid (hf7.congr (T := fun z => (S z ∨ (op = 0 ∧ z = n ∧ f z = 0)) ∨ (FK t i (k + 1) z ∧ f z = 0)) (fun z => show addC f l z = addC f (l.drop 0) z by rw [List.drop_zero]) (fun z => by
                have h1 := addC_zero (fun z => (HBF.out z).1) l z
                have h2 := HFKS.out z
                constructor
                · rintro (h | ⟨h3, h4⟩)
                  · rcases h with h | ⟨h, h5⟩
                    · exact Or.inl h
                    · exact Or.inr ⟨h2.2 (Or.inl h), h5⟩
                  · have h5 := h1.1 h4
                    exact Or.inr ⟨h2.2 (Or.inr ⟨h5.1, h3⟩), h5.2⟩
                · rintro (h | ⟨h3, h4⟩)
                  · exact Or.inl (Or.inl h)
                  · rcases h2.1 h3 with h | ⟨h, h5⟩
                    · exact Or.inl (Or.inr ⟨h, h4⟩)
                    · exact Or.inr ⟨h5, h1.2 ⟨h, h4⟩⟩))
              clear hf7 HRC HFA
              go_wp2_with fail
              go_loopg [63] l.length (fun g_ v63 w' => ∃ j : Nat, Hid (j + g_ = l.length) ∧ v63 = .int .i64 j ∧ Hid (Fs w0 w' mb ob (addC f (l.drop j)) (fun z => (S z ∨ (op = 0 ∧ z = n ∧ f z = 0)) ∨ (FK t i (k + 1) z ∧ f z = 0))))
              case atStart => exact ⟨0, Go.Lib.hid (by omega), rfl, HF7⟩
              case round =>
                clear HF7
                obtain ⟨j, hj, rfl, hfs⟩ := hrel
                obtain ⟨wi, hwi⟩ : ∃ wi : World, wi = wr := ⟨_, rfl⟩
                subst hwi
                by_cases hlt : j < l.length
                · have hltj : (j : Int) < (l.length : Int) := by omega
                  have hj0 : (0 : Int) ≤ (j : Int) := by omega
                  have HJ := Go.Lib.hid hlt
                  obtain ⟨ad5, e_, p0⟩ := Kd.at_int (Kd.C_below HCA.out hfs.out.bl) (j : Int) hj0 hltj
                  cases e_
                  rw [rd_nat l j hlt, Int.toNat_natCast] at p0
                  have HUP := Go.Lib.hid (addC_down f l j hlt)
                  have HZI := Go.Lib.hid (HLI.out _ (List.getElem_mem hlt))
                  have hab := addC_bound HBF.out (l := l.drop j) (by rw [List.length_drop]; have := HLL.out; omega) (l[j]'hlt)
                  generalize l[j]'hlt = z at p0 HUP HZI hab
                  have hv0 := hab.1
                  have hv1 : addC f (l.drop j) z ≤ 70000 := by have h1 := hab.2; have h2 := HN.out; omega
                  have HWF := Go.Lib.hid (show (Lit.int .i64 (addC f (l.drop j) z - 1)).wf = true from wf64 (by omega) (by omega))
                  clear hlt hab
                  go_wp2_with (first | (at_lookup; refine wp_get _ rfl _ _ rfl mb _ rfl hfs.out.m z rfl (idz_wf HZI.out) ?_) | (at_mapUpdate; refine wp_set _ rfl _ _ _ rfl mb _ rfl hfs.out.m z _ rfl HZI.out rfl HWF.out ?_; intro w5 hs5 hg5; have HF5 := Go.Lib.hid ((hfs.out.setm HMO.out HM.out hs5 hg5).congr HUP.out (fun _ => Iff.rfl)); clear hs5 hg5) | fail)
                  go_roundg (gk - 1)
                  case measure => have := hj.out; have := HJ.out; omega
                  case rel => exact ⟨j + 1, Go.Lib.hid (by have := hj.out; have := HJ.out; omega), by go_num, HF5⟩
                · have hd : decide ((j : Int) < (l.length : Int)) = false := decide_eq_false (by omega)
                  have hd2 : decide (j < l.length) = false := decide_eq_false hlt
                  have HFE := Go.Lib.hid (hfs.out.congr (g := f) (fun z => by rw [List.drop_of_length_le (by omega)]; exact addC_nil f z) (fun _ => Iff.rfl))
                  clear hlt hfs hj
                  go_wp2_with fail
                  go_roundg (ga - 1)
                  case measure => have := hk.out; have := HK.out; omega
                  case rel => exact ⟨k + 1, Go.Lib.hid (by have := hk.out; have := HK.out; omega), by go_num, HFE⟩
        · have hd : decide ((k : Int) < (((x.f3.map fun k => ps k.toNat).length : Nat) : Int)) = false := decide_eq_false (by rw [List.length_map]; omega)
          have hd2 : decide (k < (x.f3.map fun k => ps k.toNat).length) = false := decide_eq_false (by rw [List.length_map]; exact hlt)
          have hd3 : decide ((k : Int) < (x.f3.length : Int)) = false := decide_eq_false (by omega)
          have hd4 : decide (k < x.f3.length) = false := decide_eq_false hlt
          have HE := Go.Lib.hid (show FrP w0 t i mb ob f S (.returned (.tuple #[])) wo from ⟨rfl, hfs.out.congr (fun _ => rfl) (fun z => by
            have h1 := HFV.out z
            rw [← HOP.out, ← HNN.out] at h1
            rw [show k = x.f3.length by have := hk.out; omega]
            constructor
            · rintro ((h | ⟨h2, h3, h4⟩) | ⟨h2, h3⟩)
              · exact Or.inl h
              · exact Or.inr ⟨h1.2 (Or.inl ⟨h2, h3⟩), h4⟩
              · exact Or.inr ⟨h1.2 (Or.inr h2), h3⟩
            · rintro (h | ⟨h2, h3⟩)
              · exact Or.inl (Or.inl h)
              · rcases h1.1 h2 with ⟨h4, h5⟩ | h4
                · exact Or.inl (Or.inr ⟨h4, h5, h3⟩)
                · exact Or.inr ⟨h4, h3⟩)⟩)
          clear hlt hfs hk
          go_wp2_with fail
          refine bodyPost_end (results_none rfl _ _ _) rfl ?_
          exact HE.out
end Go.Proofs.YtjhinklijopobaaDoor.Co
namespace Go.Proofs.YtjhinklijopobaaDoor.Co
open Go.RowKit Go.Lib Go.Sort Go.Proofs.YtjhinklijopobaaDoor.PCoreChecks Go.Proofs.YtjhinklijopobaaDoorW.PrintWords Go.Proofs.YtjhinklijopobaaDoorW.PrintLast Go.Proofs.YtjhinklijopobaaDoorW.PrintMore
open Go.Maps (Keyed has size IsMap Tidy)
set_option linter.unusedVariables false
set_option linter.unusedSimpArgs false

/-! ### slices.Sort at a row of numbers of the call's own -/
theorem below_grow {B : Nat} {w0 w : World} (h : Below B w0 w) (os : Array Obj) (hB : B ≤ w.heap.size) : Below B w0 (grow w os) :=
  h.trans ⟨rfl, rfl, rfl, by simp [grow], fun k hk => by simp [grow, Array.getElem?_append, show k < w.heap.size by omega]⟩
theorem own_grow {w : World} {base e n : Nat} {v : Value} {xs : List Value} (h : w.ownsRow base e 1 v n xs) (os : Array Obj) : (grow w os).ownsRow base e 1 v n xs :=
  pw_own_below h (below_grow (Below.refl _ _) os (Nat.le_refl _))
def leI : Int → Int → Bool := fun x y => decide (x ≤ y)
theorem sortI_own {B : Nat} {W : World} {A : Option Addr} {c : Nat} {l : List Int} (h : W.ownsRow B 3 1 (.slice A l.length c) l.length (encs (Value.int .i64) l)) (hn : l.length < 4611686018427387904) (hB : B ≤ W.heap.size) :
    Calls Tryd.prog 80 #[.slice A l.length c] W fun e w' => e = .returned (.tuple #[]) ∧ w'.ownsRow B 3 1 (.slice A l.length c) l.length (encs (Value.int .i64) (l.mergeSort leI)) ∧ Below B W w' := by
  by_cases hv : Value.slice A l.length c = .slice none 0 0
  · injection hv with h1 h2 h3
    subst h1 h3
    obtain rfl := List.length_eq_zero_iff.1 h2
    refine (Tryd.slices_Sort_int_none none 0 W).mono ?_
    rintro e w' ⟨rfl, rfl⟩
    exact ⟨rfl, by simpa using h, Below.refl _ _⟩
  · obtain ⟨g, cap, e0, hbg, hgl, hcap, hcm, hlen, hH⟩ := Lib.holds_of_ownsRow h hv
    injection e0 with e1 e2 e3
    subst e1 e3
    refine (Tryd.slices_Sort_int g 0 c l W hH hgl hn).mono ?_
    rintro e w' ⟨rfl, n, os, rfl⟩
    have hl : (l.mergeSort fun x y => decide (x ≤ y)).length = l.length := by simp
    refine ⟨rfl, ?_, below_grow (below_putRow (Below.refl _ _) hbg) os (by simpa [putRow, mapBlock, Sort.ahead] using hB)⟩
    have h2 := own_grow (ownsRow_putRow (q := n) h hl (Nat.le_refl _)) os
    rw [List.take_of_length_le (by omega)] at h2
    exact h2

/-! ### core.FreeOf -/
def FoP (w : World) (S : Int → Prop) (e : Ending) (w' : World) : Prop := ∃ (l : List Int) (A : Option Addr) (c : Nat), e = .returned (.slice A l.length c) ∧ l.Pairwise (· < ·) ∧ (∀ z, z ∈ l ↔ S z) ∧ w'.ownsRow w.heap.size 3 1 (.slice A l.length c) l.length (encs (Value.int .i64) l) ∧ Below w.heap.size w w'
theorem FoP.mk {w w' : World} {S : Int → Prop} {l0 : List Int} {A : Option Addr} {c : Nat} (hn : l0.Nodup) (hs : ∀ z, z ∈ l0 ↔ S z) (ho : w'.ownsRow w.heap.size 3 1 (.slice A l0.length c) l0.length (encs (Value.int .i64) (l0.mergeSort leI))) (hb : Below w.heap.size w w') : FoP w S (.returned (.slice A l0.length c)) w' := by
  have hp : (l0.mergeSort leI).Perm l0 := List.mergeSort_perm _ _
  have hl : (l0.mergeSort leI).length = l0.length := by simp
  refine ⟨l0.mergeSort leI, A, c, by rw [hl], ?_, fun z => (hp.mem_iff).trans (hs z), by rw [hl]; exact ho, hb⟩
  have h1 : (l0.mergeSort leI).Pairwise (fun a b => leI a b = true) := List.pairwise_mergeSort (fun a b c h1 h2 => by unfold leI at *; simp at *; omega) (fun a b => by unfold leI; simp; omega) l0
  have h2 : (l0.mergeSort leI).Nodup := hp.nodup_iff.2 hn
  have h3 := h1.and (List.nodup_iff_pairwise_ne.1 h2)
  exact h3.imp (fun {a b} h => by
    have h4 := h.1
    have h5 := h.2
    unfold leI at h4
    simp at h4
    omega)
/-- The names that are gathered. -/
structure Rg (w : World) (ob r : Nat) (D : DataW Unit) (left : Lit → Bool) (cnt : Nat) (l : List Int) (v : Value) (W : World) : Prop where
  bl : Below w.heap.size w W
  rl : w.heap.size ≤ r
  rg : W.ranges Tryd.prog 3 unitElem ob r 1048576 D left cnt
  own : Kd.R (Kd.int .i64) 3 W w.heap.size (fun _ => True) v l
  nd : l.Nodup
  mem : ∀ z : Int, z ∈ l ↔ has D (.int .i64 z) = true ∧ left (.int .i64 z) = false
  len : l.length + cnt ≤ size D
theorem ranges_lit {W : World} {ob r n cnt : Nat} {D : DataW Unit} {left : Lit → Bool} (h : W.ranges Tryd.prog 3 unitElem ob r n D left cnt) {k : Nat} {cells : Array Value} {t : Nat} (hk : W.heap[k]? = some (.cells cells t (0, 0))) : some ob ≠ some k ∧ some r ≠ some k := by
  obtain ⟨es, clock, since, seen, c0, hb, _, _, _, hr, _⟩ := h
  constructor
  · intro e; cases e; rw [hb] at hk; cases hk
  · intro e; cases e; rw [hr] at hk; cases hk
theorem ranges_app {w W W' : World} {ob r : Nat} {D : DataW Unit} {left : Lit → Bool} {cnt : Nat} {l : List Int} {v : Value} (ho : Kd.R (Kd.int .i64) 3 W w.heap.size (fun _ => True) v l) (h : W.ranges Tryd.prog 3 unitElem ob r 1048576 D left cnt) (hg : W.grownBy W' v.ownBlock) : W'.ranges Tryd.prog 3 unitElem ob r 1048576 D left cnt := by
  cases e : v.ownBlock with
  | none => rw [e] at hg; exact h.kept hg (by simp) (by simp)
  | some k =>
    obtain ⟨cells, hc⟩ := Kd.R_typed ho k e
    obtain ⟨h1, h2⟩ := ranges_lit h hc
    rw [e] at hg
    exact h.kept hg h1 h2
theorem strike_int (left : Lit → Bool) (x z : Int) : ((left (.int .i64 z) && !(Lit.int .i64 z).sameKey (.int .i64 x)) = false) ↔ (left (.int .i64 z) = false ∨ z = x) := by
  by_cases e : z = x
  · subst e
    have : (Lit.int .i64 z).sameKey (.int .i64 z) = true := by simp [Lit.sameKey]
    simp [this]
  · have : (Lit.int .i64 z).sameKey (.int .i64 x) = false := Maps.sameKey_ne (fun h => e (lit_inj h))
    simp [this, e]
theorem Rg.step {w W W' : World} {ob r : Nat} {D : DataW Unit} {left : Lit → Bool} {cnt cnt' : Nat} {l : List Int} {v v' : Value} {x : Int} (h : Rg w ob r D left cnt l v W) (hl : left (.int .i64 x) = true) (hD : has D (.int .i64 x) = true) (hc : cnt' < cnt)
    (hrg : W'.ranges Tryd.prog 3 unitElem ob r 1048576 D (fun z => left z && !z.sameKey (.int .i64 x)) cnt') (hr : Kd.R (Kd.int .i64) 3 W' w.heap.size (fun _ => True) v' (l ++ [x])) (hb : Below w.heap.size w W') :
    Rg w ob r D (fun z => left z && !z.sameKey (.int .i64 x)) cnt' (l ++ [x]) v' W' := by
  refine ⟨hb, h.rl, hrg, hr, nodup_snoc h.nd (fun hx => ?_), fun z => ?_, by rw [List.length_append, List.length_singleton]; have := h.len; omega⟩
  · have := ((h.mem x).1 hx).2
    rw [hl] at this; cases this
  · rw [List.mem_append, List.mem_singleton, strike_int left x z, h.mem z]
    constructor
    · rintro (⟨h1, h2⟩ | rfl)
      · exact ⟨h1, Or.inl h2⟩
      · exact ⟨hD, Or.inr rfl⟩
    · rintro ⟨h1, h2 | rfl⟩
      · exact Or.inl ⟨h1, h2⟩
      · exact Or.inr rfl
theorem Rg.next {w W W1 : World} {ob r : Nat} {D : DataW Unit} {left : Lit → Bool} {cnt : Nat} {l : List Int} {v : Value} (h : Rg w ob r D left cnt l v W) (hg : W.grownBy W1 (some r)) : Kd.R (Kd.int .i64) 3 W1 w.heap.size (fun _ => True) v l ∧ Below w.heap.size w W1 := by
  refine ⟨Kd.R_mono (Kd.R_grown (Kd.R_bound h.own) hg (fun k hk e => ?_)) (fun _ hk => hk.1), h.bl.grown hg h.bl.size (fun k hk => by cases hk; exact h.rl)⟩
  obtain ⟨_, _, _, q, _, cells, hc⟩ := hk
  exact (ranges_lit h.rg hc).2 e.symm

set_option maxHeartbeats 8000000 in
set_option maxRecDepth 100000 in
theorem freeOf_calls (t : List S28) (ps : Nat → Nat) (w : World) (N : Nat) (hT : Ft w t N ps) (htr : treeB t = true) (hn : t.length ≤ 4096) (hok : ∀ x ∈ t, Ok x) (i : Nat) (hi : i < t.length) (hiN : i < N) :
    Calls Tryd.prog 48 #[ptrV (ps i)] w (FoP w (fun z => Fv t i z)) := by
  have hmm := @run_makeMap Tryd.prog
  have HF0 := Go.Lib.hid (show Fs w ((w.alloc (.map #[] 0)).alloc (.map #[] 0)) (w.heap.size + 1) w.heap.size (fun _ => 0) (fun _ => False) from ⟨below_alloc (below_alloc (Below.refl _ _) _) _, by have h := Mi.made (w.alloc (.map #[] 0)); rwa [show (w.alloc (.map #[] 0)).heap.size = w.heap.size + 1 by simp] at h, (So.made w).below (below_alloc (Below.refl _ _) _)⟩)
  have HFC := Go.Lib.hid (free_calls w t ps N hT htr hn hok (w.heap.size + 1) w.heap.size (by omega) (by omega) (Nat.le_refl _) (i + 1) i (by omega) hi hiN _ _ _ HF0.out (fun z => ⟨Int.le_refl 0, by omega⟩))
  clear hT htr hn hok hi hiN
  go_enter Tryd.func48, Tryd.ntmps48
  go_wp2_with fail
  refine HFC.out.mono ?_
  rintro e W2 ⟨rfl, hfs⟩
  obtain ⟨D, hD1, hD2, hD3⟩ := hfs.s
  have HB2 := Go.Lib.hid hfs.bl
  have HD1 := Go.Lib.hid hD1
  have HDS := Go.Lib.hid (show ∀ z, has D (.int .i64 z) = true ↔ Fv t i z from fun z => (hD2 z).trans ⟨fun h => h.elim (fun h => h.elim) (fun h => h.1), fun h => Or.inr ⟨h, rfl⟩⟩)
  clear HFC HF0 hfs hD1 hD2 hD3 hmm
  go_wp2_with (first | (at_range; refine wpList_range_own _ rfl _ 114 rfl 3 134 kd3 Tryd.underlying114 unitElem w.heap.size 1048576 D rfl HD1.out ?_; intro W3 hrg0 hg0 hs0; have HR0 := Go.Lib.hid (show Rg w w.heap.size W2.heap.size D (has D) (size D) [] (.slice none 0 0) W3 from ⟨HB2.out.grown hg0 HB2.out.size (fun k hk => by cases hk), HB2.out.size, hrg0, Kd.R_nil _ _ _ _ _, by simp, fun z => by simp, by simp⟩); clear hrg0 hg0 hs0) | fail)
  go_frame
  have HSZ := Go.Lib.hid HD1.out.size_le
  go_loopg [4] (size D) (fun g_ v4 w' => ∃ (l : List Int) (A : Option Addr) (c : Nat) (left : Lit → Bool) (cnt : Nat), v4 = .slice A l.length c ∧ Hid (cnt ≤ g_) ∧ Hid (Rg w w.heap.size W2.heap.size D left cnt l (.slice A l.length c) w'))
  case atStart => exact ⟨[], none, 0, _, _, rfl, Go.Lib.hid (Nat.le_refl _), HR0⟩
  case round =>
    clear HR0
    obtain ⟨l, A, c, left, cnt, rfl, hcn, hrg⟩ := hrel
    obtain ⟨wo, hwo⟩ : ∃ wo : World, wo = wr := ⟨_, rfl⟩
    subst hwo
    have HLN := Go.Lib.hid (show l.length ≤ 1048576 by have := hrg.out.len; have := HSZ.out; omega)
    go_wp2_with (first | (at_next; refine wpList_next_ranges _ rfl _ rfl 3 kd3 unitElem (Value.int .i64) (fun _ : Unit => .agg #[]) (fun key kl hkey => by obtain ⟨x, rfl, _⟩ := Maps.keyOf_int_inv Tryd.underlying3 hkey; exact ⟨x, rfl⟩) (fun v y hv => ⟨(), (unitElem_inv hv).1⟩) w.heap.size W2.heap.size 1048576 D left cnt rfl hrg.out.rg ?_ ?_) | fail)
    · intro hc0 hl0
      have HP := Go.Lib.hid (show ∀ z, z ∈ l ↔ Fv t i z from fun z => (hrg.out.mem z).trans (by rw [hl0 (.int .i64 z)]; simp [HDS.out z]))
      have HO := Go.Lib.hid (Kd.own_of_R hrg.out.own)
      have HND := Go.Lib.hid hrg.out.nd
      have HBL := Go.Lib.hid hrg.out.bl
      clear hc0 hl0 hrg hcn
      have HSO := Go.Lib.hid (sortI_own HO.out (by have := HLN.out; omega) HBL.out.size)
      go_wp2_with fail
      refine HSO.out.mono ?_
      rintro e w5 ⟨rfl, ho5, hb5⟩
      have HV := Go.Lib.hid (FoP.mk (w := w) (w' := w5) HND.out HP.out ho5 (HBL.out.trans hb5))
      clear ho5 hb5 HSO
      go_wp2_with fail
      go_ret
      exact HV.out
    · intro x kl yd yp w4 cnt' hkey hlk hv hat hrg4 hlt hgr hsz hen
      obtain ⟨x', ex, rfl, hwf⟩ := Maps.keyOf_int_inv Tryd.underlying3 hkey
      injection ex with _ ex
      subst ex
      have HHD := Go.Lib.hid (Maps.has_true_of_atKey hat)
      have HLK := Go.Lib.hid hlk
      have HLT := Go.Lib.hid hlt
      have HR4 := Go.Lib.hid (hrg.out.next hgr)
      have HRG4 := Go.Lib.hid hrg4
      clear hkey hlk hv hat hrg4 hlt hgr hsz hwf
      go_wp2_with (first | (at_builtin; refine Kd.R_append (Kd.int .i64) (w0 := w) (W := w4) w.heap.size rfl (.tmp 17) (.tmp 19) 25 3 (.int .i64 0) 8 rfl Tryd.underlying25 info3 rfl (by decide) (by decide) (.slice A l.length c) l x [.int .i64 x] (fun _ => True) (fun _ => False) rfl (by simp [Act.eval, Act.put]) rfl (fun _ h => h.elim) (fun _ _ => trivial) HR4.out.1 HR4.out.2 HR4.out.2.size (by have := HLN.out; omega) ?_; intro v9 w9 hr9 hb9 hg9 hat9; obtain ⟨A9, c9, rfl⟩ := Kd.R_slice hr9; have HN9 := Go.Lib.hid (hrg.out.step HLK.out HHD.out HLT.out (ranges_app HR4.out.1 HRG4.out hg9) hr9 hb9); clear hr9 hb9 hg9 hat9) | fail)
      go_roundg (gk - 1)
      case measure => have := hcn.out; have := HLT.out; omega
      case rel => exact ⟨l ++ [x], A9, c9, _, cnt', (by first | rfl | simp), Go.Lib.hid (by have := hcn.out; have := HLT.out; omega), HN9⟩
end Go.Proofs.YtjhinklijopobaaDoor.Co
namespace Go.Proofs.YtjhinklijopobaaDoor.Co
open Go.RowKit Go.Proofs.YtjhinklijopobaaDoor.PCoreChecks Go.Proofs.YtjhinklijopobaaDoorW.PrintWords Go.Proofs.YtjhinklijopobaaDoorW.PrintLast Go.Proofs.YtjhinklijopobaaDoorW.PrintMore
set_option linter.unusedVariables false
set_option linter.unusedSimpArgs false

/-! ### core.Grow -/
/-- What stands at the head of a round. -/
structure Gr (w W : World) (t : List S28) (i : Nat) (ps lo : Nat → Nat) : Prop where
  b : Below w.heap.size w W
  fo : Fo (w.heap.size + 1) W t i ps lo
  na : NA W w.heap.size t.length ps i
theorem Gr.start (w : World) (t : List S28) : Gr w (w.alloc (.cells (madeCells #[.pointer none] t.length) 66)) t 0 (fun _ => 0) (fun _ => w.heap.size + 1) :=
  ⟨below_alloc (Below.refl _ _) _, ⟨Nat.le_refl _, by simp, fun i _ h => by omega⟩, NA.made w t.length _⟩
def GroP (t : List S28) (w : World) (e : Ending) (w' : World) : Prop := ∃ ps lo, e = .returned (ptrV (ps (t.length - 1))) ∧ Fo (w.heap.size + 1) w' t t.length ps lo ∧ Below w.heap.size w w'
theorem GroP.mk {t : List S28} {w w' : World} {ps lo : Nat → Nat} (h : Gr w w' t t.length ps lo) : GroP t w (.returned (ptrV (ps (t.length - 1)))) w' := ⟨ps, lo, rfl, h.fo, h.b⟩
theorem NA.cell0 {W : World} {g n : Nat} {ps : Nat → Nat} {i : Nat} (h : NA W g n ps i) (hi : i < n) : W.cell? ⟨g, i, none⟩ = some (.pointer none) := by
  rw [blk_cell h]
  simp [hi]
theorem Gr.next {w wo w1 W : World} {t : List S28} {i : Nat} {ps lo : Nat → Nat} {b : Nat} {x : S28} {v2 v3 v4 : Value} {kb : List Nat} (h : Gr w wo t i ps lo) (hb1 : Below wo.heap.size wo w1) (hbu : Bu w1 b x.f0 x.f1 v2 v3 v4 x.f2 kb x.f4 W) (hna : NA W w.heap.size t.length ps i) (hi : i < t.length)
    (hnx : ∀ W W' b, Gn W (lo i) W.heap.size b x kb → Below wo.heap.size wo W → W'.heap.size = W.heap.size → (∀ k, w.heap.size + 1 ≤ k → W'.heap[k]? = W.heap[k]?) → Fo (w.heap.size + 1) W' t (i + 1) (fset ps i b) (fset lo (i + 1) W'.heap.size)) :
    Gr w (W.setCell ⟨w.heap.size, i, none⟩ (ptrV b)) t (i + 1) (fset ps i b) (fset lo (i + 1) (W.setCell ⟨w.heap.size, i, none⟩ (ptrV b)).heap.size) := by
  have hbw : Below wo.heap.size wo W := hb1.trans (hbu.bl.mono hb1.size)
  refine ⟨below_set (below_step h.b hbw) (Nat.le_refl _), ?_, hna.put hi b⟩
  exact hnx W _ b (hbu.done (Nat.le_trans h.fo.hi hb1.size)) hbw (by simp [World.setCell]) (fun k hk => Below.heap_setCell W ⟨w.heap.size, i, none⟩ _ k (by simp; omega))
/-- What stays while the binders are copied. -/
def Rc (g : Nat) (x : S28) (A2 : Option Addr) (c2 : Nat) (w1 W : World) : Prop :=
  W.cell? ⟨g, 0, none⟩ = some (.int .i64 x.f0) ∧ W.cell? ⟨g, 1, none⟩ = some (.int .i64 x.f1) ∧ W.cell? ⟨g, 2, none⟩ = some (.slice A2 x.f2.length c2) ∧ Hid (Below w1.heap.size w1 W)
theorem Rc.below {g : Nat} {x : S28} {A2 : Option Addr} {c2 : Nat} {w1 W W' : World} (h : Rc g x A2 c2 w1 W) (hb : Below W.heap.size W W') : Rc g x A2 c2 w1 W' := ⟨pw_cell_below hb h.1, pw_cell_below hb h.2.1, pw_cell_below hb h.2.2.1, Go.Lib.hid (below_step h.2.2.2.out hb)⟩
theorem clone_arm {g : Nat} {x : S28} {A2 : Option Addr} {c2 : Nat} {w1 W : World} (hC : Hid (Kd.C (Kd.int .i64) w1 A2 x.f2.length x.f2)) (hl : Hid (x.f2.length ≤ 17592186044416)) (h : Rc g x A2 c2 w1 W) :
    Calls Tryd.prog 83 #[.slice A2 x.f2.length c2] W fun e wn => ∃ A5 c5, e = .returned (.slice A5 x.f2.length c5) ∧ Kd.R (Kd.int .i64) 3 wn w1.heap.size (fun _ => True) (.slice A5 x.f2.length c5) x.f2 ∧ Rc g x A2 c2 w1 wn :=
  (clone_calls x.f2 A2 c2 W (Kd.C_below hC.out h.2.2.2.out) hl.out).mono fun e wn h2 => by
    obtain ⟨v, rfl, hr, hb⟩ := h2
    obtain ⟨A5, c5, rfl⟩ := Kd.R_slice hr
    exact ⟨A5, c5, rfl, Kd.R_lower hr h.2.2.2.out.size, h.below hb⟩

theorem Bu.start {w1 wn : World} {op n : Int} {A5 : Option Addr} {c5 : Nat} {bs : List Int} (hb : Below w1.heap.size w1 wn) (hr : Kd.R (Kd.int .i64) 3 wn w1.heap.size (fun _ => True) (.slice A5 bs.length c5) bs) :
    Bu w1 wn.heap.size op n (.slice A5 bs.length c5) (.slice none 0 0) (.slice none 0 0) bs [] [] (wn.alloc (.cells #[.int .i64 op, .int .i64 n, .slice A5 bs.length c5, .slice none 0 0, .slice none 0 0] 95)) :=
  ⟨below_step hb (below_alloc (Below.refl _ _) _), blk_new _ _, hb.size, Kd.R_alloc hr _, Kd.R_nil _ _ _ _ _, Kd.R_nil _ _ _ _ _⟩
theorem Bu.cells {w1 W : World} {b : Nat} {op n : Int} {v2 v3 v4 : Value} {bs : List Int} {kb : List Nat} {al : List S86} (h : Bu w1 b op n v2 v3 v4 bs kb al W) : (W.cell? ⟨b, 3, none⟩ = some v3 ∧ W.frozen? ⟨b, 3, none⟩ = false) ∧ (W.cell? ⟨b, 4, none⟩ = some v4 ∧ W.frozen? ⟨b, 4, none⟩ = false) :=
  ⟨⟨h.tb.cells.2.2.2.1, blk_frozen h.tb 3⟩, h.tb.cells.2.2.2.2, blk_frozen h.tb 4⟩
theorem Bu.old {w1 W : World} {b : Nat} {op n : Int} {v2 v3 v4 : Value} {bs : List Int} {kb : List Nat} {al : List S86} (h : Bu w1 b op n v2 v3 v4 bs kb al W) {a : Addr} {v : Value} (hc : w1.cell? a = some v) : W.cell? a = some v := pw_cell_below h.bl hc

theorem Bu.grown3 {w1 W W' : World} {b : Nat} {op n : Int} {v2 v3 v4 : Value} {bs : List Int} {kb : List Nat} {al : List S86} (h : Bu w1 b op n v2 v3 v4 bs kb al W) (hg : W.grownBy W' v3.ownBlock) : W'.cell? ⟨b, 3, none⟩ = some v3 ∧ W'.frozen? ⟨b, 3, none⟩ = false := by
  have htb : Tb W' b op n v2 v3 v4 := blk_grown h.tb hg (Kd.R_ne h.r3 h.tb (by decide))
  exact ⟨htb.cells.2.2.2.1, blk_frozen htb 3⟩
theorem Bu.grown4 {w1 W W' : World} {b : Nat} {op n : Int} {v2 v3 v4 : Value} {bs : List Int} {kb : List Nat} {al : List S86} (h : Bu w1 b op n v2 v3 v4 bs kb al W) (hg : W.grownBy W' v4.ownBlock) : W'.cell? ⟨b, 4, none⟩ = some v4 ∧ W'.frozen? ⟨b, 4, none⟩ = false := by
  have htb : Tb W' b op n v2 v3 v4 := blk_grown h.tb hg (Kd.R_ne h.r4 h.tb (by decide))
  exact ⟨htb.cells.2.2.2.2, blk_frozen htb 4⟩

set_option maxHeartbeats 16000000 in
set_option maxRecDepth 100000 in
theorem grow_calls (t : List S28) (htr : treeB t = true) (hn : t.length ≤ 4096) (hf : ∀ x ∈ t, Fit x) (A0 : Option Addr) (c0 : Nat) (w : World) (hr : Kd.C k28 w A0 t.length t) :
    Calls Tryd.prog 53 #[.slice A0 t.length c0] w (GroP t w) := by
  have HR := Go.Lib.hid hr
  have HF := Go.Lib.hid hf
  have HTR := Go.Lib.hid htr
  have ht9 : (t.length : Int) ≤ 4096 := by omega
  have HG0 := Go.Lib.hid (Gr.start w t)
  have h0 : 0 < t.length := (treeB_parts htr).1
  have hmk : ∀ W : World, (Instr.makeSlice 93 (.int .i64 (t.length : Int)) (.int .i64 (t.length : Int))).run Tryd.prog W = .ok (.slice (some ⟨W.heap.size, 0, none⟩) t.length t.length) (W.alloc (.cells (madeCells #[.pointer none] t.length) 66)) := fun W =>
    run_make_row' 93 66 (.pointer none) 8 Tryd.underlying93 info66 rfl .i64 .i64 t.length (by omega) (by omega) W
  have H0 := Go.Lib.hid h0
  clear hr hf htr hn h0
  go_enter Tryd.func53, Tryd.ntmps53
  go_wp2_with fail
  clear hmk
  go_loopg [16] t.length (fun g_ v16 w' => ∃ (i : Nat) (ps lo : Nat → Nat), Hid (i + g_ = t.length) ∧ v16 = .int .i64 i ∧ Hid (Gr w w' t i ps lo))
  case atStart => exact ⟨0, _, _, Go.Lib.hid (by omega), rfl, HG0⟩
  case round =>
    clear HG0
    obtain ⟨i, ps, lo, hi, rfl, hgr⟩ := hrel
    obtain ⟨wo, hwo⟩ : ∃ wo : World, wo = wr := ⟨_, rfl⟩
    subst hwo
    obtain ⟨ga, hga⟩ : ∃ ga : Nat, ga = gk := ⟨_, rfl⟩
    subst hga
    by_cases hlt : i < t.length
    · have hlt' : (i : Int) < (t.length : Int) := by omega
      have hi0 : (0 : Int) ≤ (i : Int) := by omega
      have HI := Go.Lib.hid hlt
      obtain ⟨ad, A2, c2, A3, c3, A4, c4, e_, p0, p1, p2, p3, p4, l2, g2, l3, g3, l4, g4⟩ := at_T28 HR.out (i : Int) hi0 hlt'
      cases e_
      rw [rdT_nat t i hlt] at p0 p1 p2 p3 p4 l2 g2 l3 g3 l4 g4
      rw [Int.toNat_natCast] at p0 p1 p2 p3 p4
      replace p0 := pw_cell_below hgr.out.b p0
      replace p1 := pw_cell_below hgr.out.b p1
      replace p2 := pw_cell_below hgr.out.b p2
      replace p3 := pw_cell_below hgr.out.b p3
      replace p4 := pw_cell_below hgr.out.b p4
      have HFT := Go.Lib.hid (HF.out _ (List.getElem_mem hlt))
      have HKD := Go.Lib.hid (fun k (hk : k ∈ (t[i]'hlt).f3) => badK_mem (rB_at (treeB_parts HTR.out).2.1 i hlt) hk)
      have HKL := Go.Lib.hid (kids_len HTR.out hlt)
      have HNX := Go.Lib.hid (fun W W' b => Fo.next (W := W) (W' := W') (b := b) hgr.out.fo hlt (treeB_parts HTR.out).2.1)
      generalize t[i]'hlt = x at p0 p1 p2 p3 p4 l2 g2 l3 g3 l4 g4 HFT HKD HKL HNX
      obtain ⟨w1, hw1⟩ : ∃ w1, w1 = wo.alloc (.cells #[.int .i64 x.f0, .int .i64 x.f1, .slice A2 x.f2.length c2, .slice A3 x.f3.length c3, .slice A4 x.f4.length c4] 28) := ⟨_, rfl⟩
      have HB1 := Go.Lib.hid (show Below wo.heap.size wo w1 by rw [hw1]; exact below_alloc (Below.refl _ _) _)
      have HX1 := Go.Lib.hid (show Bx w1 wo.heap.size x A2 c2 A3 c3 A4 c4 by rw [hw1]; exact Bx.made wo x A2 A3 A4 c2 c3 c4)
      have HG2 := Go.Lib.hid (Kd.C_below (Kd.C_below g2 hgr.out.b) HB1.out)
      have HG3 := Go.Lib.hid (Kd.C_below (Kd.C_below g3 hgr.out.b) HB1.out)
      have HG4 := Go.Lib.hid (Kd.C_below (Kd.C_below g4 hgr.out.b) HB1.out)
      have HNA := Go.Lib.hid (hgr.out.na.below HB1.out)
      have HW1 := Go.Lib.hid hw1
      clear hlt g2 g3 g4 l2 l3 l4 hw1
      go_wp2_with fail
      rw [← HW1.out]
      have HL2 := Go.Lib.hid (show x.f2.length ≤ 17592186044416 by have := HFT.out.b; omega)
      obtain ⟨x0, x1, x2, x3, x4⟩ := HX1.out.cells
      clear p0 p1 p2 p3 p4
      have HRC := Go.Lib.hid (show Rc wo.heap.size x A2 c2 w1 w1 from ⟨x0, x1, x2, Go.Lib.hid (Below.refl _ _)⟩)
      clear x0 x1 x2 x3 x4
      go_region_held3 (fun w' => w'.cell? ⟨wo.heap.size, 0, none⟩ = some (.int .i64 x.f0) ∧ w'.cell? ⟨wo.heap.size, 1, none⟩ = some (.int .i64 x.f1) ∧ w'.cell? ⟨wo.heap.size, 2, none⟩ = some (.slice A2 x.f2.length c2) ∧ Hid (Below w1.heap.size w1 w')) (first | exact hNew | exact HRC.out.below (below_drew (Below.refl _ _)) | exact hNew.below (below_alloc (Below.refl _ _) _)) (
        (go_at_call 83; refine (clone_arm HG2 HL2 (show Rc wo.heap.size x A2 c2 w1 _ from ‹_ ∧ _ ∧ _ ∧ Hid (Below w1.heap.size w1 _)›)).mono ?_; rintro e wn ⟨A5, c5, rfl, hR5, hNew⟩))
      have hbu := Bu.start (op := x.f0) (n := x.f1) hNew.2.2.2.out hR5
      generalize (wn.alloc (.cells #[.int .i64 x.f0, .int .i64 x.f1, .slice A5 x.f2.length c5, .slice none 0 0, .slice none 0 0] 95)) = W2 at hbu ⊢
      have HBU := Go.Lib.hid hbu
      have hlb : wn.heap.size = wn.heap.size := rfl
      obtain ⟨b, hb⟩ : ∃ b, b = wn.heap.size := ⟨_, rfl⟩
      rw [← hb] at hbu HBU ⊢
      clear hNew hR5 HRC hbu hlb hb
      obtain ⟨-, -, -, y3, -⟩ := HX1.out.cells
      have y3 := HBU.out.old y3
      go_wp2_with fail
      have hk9 : (x.f3.length : Int) ≤ 4096 := by have := HKL.out; have := HI.out; omega
      clear y3
      go_loopg [33] x.f3.length (fun g_ v33 w' => ∃ (j : Nat) (v3 : Value), Hid (j + g_ = x.f3.length) ∧ v33 = .int .i64 j ∧ Hid (Bu w1 b x.f0 x.f1 (.slice A5 x.f2.length c5) v3 (.slice none 0 0) x.f2 ((x.f3.take j).map fun k => ps k.toNat) [] w'))
      case atStart => exact ⟨0, _, Go.Lib.hid (by omega), rfl, HBU⟩
      case round =>
        clear HBU
        obtain ⟨j, v3, hj, rfl, hbu⟩ := hrel
        obtain ⟨wi, hwi⟩ : ∃ wi : World, wi = wr := ⟨_, rfl⟩
        subst hwi
        by_cases hlt : j < x.f3.length
        · have hltj : (j : Int) < (x.f3.length : Int) := by omega
          have hj0 : (0 : Int) ≤ (j : Int) := by omega
          have HJ := Go.Lib.hid hlt
          obtain ⟨ad3, e_, q0⟩ := Kd.at_int HG3.out (j : Int) hj0 hltj
          cases e_
          rw [rd_nat x.f3 j hlt, Int.toNat_natCast] at q0
          have HTK := Go.Lib.hid (show (x.f3.take (j + 1)).map (fun k => ps k.toNat) = (x.f3.take j).map (fun k => ps k.toNat) ++ [ps (x.f3[j]'hlt).toNat] by rw [List.take_succ_eq_append_getElem hlt, List.map_append]; rfl)
          obtain ⟨k, hk⟩ : ∃ k : Nat, x.f3[j]'hlt = (k : Int) := ⟨(x.f3[j]'hlt).toNat, by have := HKD.out _ (List.getElem_mem hlt); omega⟩
          have hkb := HKD.out _ (List.getElem_mem hlt)
          rw [hk] at q0 hkb HTK
          rw [Int.toNat_natCast] at HTK
          have hk0 : (0 : Int) ≤ (k : Int) := by omega
          have hkn : (k : Int) < (t.length : Int) := by have := HI.out; omega
          have HKI := Go.Lib.hid (show k < i by omega)
          have hkc := HNA.out.cell k (by omega) (by omega)
          generalize hkb0 : (x.f3.take j).map (fun k => ps k.toNat) = kb at hbu HTK
          have HKB := Go.Lib.hid (show kb.length ≤ 4096 by rw [← hkb0, List.length_map, List.length_take]; omega)
          clear hlt hk hkb hkb0
          have n0 := hbu.out.old q0
          have n1 := hbu.out.old hkc
          obtain ⟨⟨n3, f3⟩, -⟩ := hbu.out.cells
          have N3 : ∀ o, (wi.alloc o).cell? ⟨b, 3, none⟩ = some v3 := fun o => (hbu.out.lift (below_alloc (Below.refl _ _) o)).cells.1.1
          clear q0 hkc
          go_wp2_with fail
          have HBD := Go.Lib.hid (hbu.out.lift (below_drew (Below.refl _ _)))
          go_region_law ((refine Kd.R_append_step kp (w0 := w1) (W := wi.drew) w1.heap.size (by rfl) (.tmp 41) (.tmp 46) 93 66 (.pointer none) 8 rfl Tryd.underlying93 info66 rfl (by decide) (by decide) v3 kb (ps k) [ptrV (ps k)] (fun _ => True) (fun _ => False) (by simp [Act.eval, Act.put]) (by simp [Act.eval, Act.put]) rfl (fun _ h => h.elim) (fun _ _ => trivial) HBD.out.r3 HBD.out.bl HBD.out.bl.size (by have := HKB.out; omega) ?_; intro v9 w9 hr9 hb9 hg9 hat9; obtain ⟨A9, c9, rfl⟩ := Kd.R_slice hr9; have HB9 := Go.Lib.hid (HBD.out.kid hr9 hb9 hg9); obtain ⟨g3, gf3⟩ := HBD.out.grown3 hg9; clear hr9 hb9 hg9 hat9))
          all_goals
            go_wp2_with fail
            go_roundg (gk - 1)
            case measure => have := hj.out; have := HJ.out; omega
            case rel => exact ⟨j + 1, .slice A9 (kb.length + 1) c9, Go.Lib.hid (by have := hj.out; have := HJ.out; omega), by go_num, Go.Lib.hid (by have h := HB9.out; rw [List.length_append, List.length_singleton] at h; rw [HTK.out]; exact h)⟩
        · have hd : decide ((j : Int) < (x.f3.length : Int)) = false := decide_eq_false (by omega)
          have hd2 : decide (j < x.f3.length) = false := decide_eq_false hlt
          have HB3 := Go.Lib.hid (show Bu w1 b x.f0 x.f1 (.slice A5 x.f2.length c5) v3 (.slice none 0 0) x.f2 (x.f3.map fun k => ps k.toNat) [] wi by have h := hbu.out; rw [List.take_of_length_le (by omega)] at h; exact h)
          obtain ⟨-, -, -, -, y4⟩ := HX1.out.cells
          have y4 := HB3.out.old y4
          clear hlt hbu hj
          go_wp2_with fail
          have ha9 : (x.f4.length : Int) ≤ 4096 := by have := HFT.out.a; omega
          clear y4
          go_loopg [54] x.f4.length (fun g_ v54 w' => ∃ (j : Nat) (v4 : Value), Hid (j + g_ = x.f4.length) ∧ v54 = .int .i64 j ∧ Hid (Bu w1 b x.f0 x.f1 (.slice A5 x.f2.length c5) v3 v4 x.f2 (x.f3.map fun k => ps k.toNat) (x.f4.take j) w'))
          case atStart => exact ⟨0, _, Go.Lib.hid (by omega), rfl, HB3⟩
          case round =>
            clear HB3
            obtain ⟨j, v4, hj, rfl, hbu⟩ := hrel
            obtain ⟨wi, hwi⟩ : ∃ wi : World, wi = wr := ⟨_, rfl⟩
            subst hwi
            by_cases hlt : j < x.f4.length
            · have hltj : (j : Int) < (x.f4.length : Int) := by omega
              have hj0 : (0 : Int) ≤ (j : Int) := by omega
              have HJ := Go.Lib.hid hlt
              obtain ⟨ad4, A1, c1, e_, q0, q1, r1, r2⟩ := at_T86 HG4.out (j : Int) hj0 hltj
              cases e_
              rw [rdA_nat x.f4 j hlt] at q0 q1 r1 r2
              rw [Int.toNat_natCast] at q0 q1
              have HTK := Go.Lib.hid (List.take_succ_eq_append_getElem hlt)
              have HAL := Go.Lib.hid (HFT.out.ab _ (List.getElem_mem hlt))
              generalize x.f4[j]'hlt = a at q0 q1 r1 r2 HTK HAL
              generalize hal0 : x.f4.take j = al at hbu HTK
              have HKB := Go.Lib.hid (show al.length ≤ 4096 by rw [← hal0, List.length_take]; omega)
              replace q0 := hbu.out.old q0
              replace q1 := hbu.out.old q1
              obtain ⟨wa, hwa⟩ : ∃ wa, wa = wi.alloc (.cells #[.int .i64 a.f0, .slice A1 a.f1.length c1] 86) := ⟨_, rfl⟩
              have HBA := Go.Lib.hid (show Below wi.heap.size wi wa by rw [hwa]; exact below_alloc (Below.refl _ _) _)
              have HXA := Go.Lib.hid (show Bxa wa wi.heap.size a A1 c1 by rw [hwa]; exact Bxa.made wi a A1 c1)
              have HQ2 := Go.Lib.hid (Kd.C_below (Kd.C_below r2 hbu.out.bl) HBA.out)
              have HLA := Go.Lib.hid (show a.f1.length ≤ 17592186044416 by have := HAL.out; omega)
              have HWA := Go.Lib.hid hwa
              clear hlt r1 r2 hal0 hwa
              go_wp2_with fail
              rw [← HWA.out]
              clear q0 q1
              have HBD := Go.Lib.hid ((hbu.out.lift HBA.out).lift (below_drew (Below.refl _ _)))
              obtain ⟨y0, y1⟩ := HXA.out.cells
              obtain ⟨-, n4, f4⟩ := (hbu.out.lift HBA.out).cells
              go_region_law (first
                | (refine Kd.R_append_step k86 (w0 := w1) (W := wn) w1.heap.size (by rfl) (.tmp 62) (.tmp 69) 26 86 (.agg #[.int .i64 0, .slice none 0 0]) 32 rfl Tryd.underlying26 info86 rfl (by decide) (by decide) v4 al a [.int .i64 a.f0, .slice A7 a.f1.length c7] (fun _ => True) _ (by simp [Act.eval, Act.put]) (by simp [Act.eval, Act.put]) (k86_mkM wn w1.heap.size _ a HR7.out) (fun k hk => hk) (fun _ _ => trivial) HBN.out.r4 HBN.out.bl HBN.out.bl.size (by have := HKB.out; omega) ?_; intro v9 w9 hr9 hb9 hg9 hat9; obtain ⟨A9, c9, rfl⟩ := Kd.R_slice hr9; have HB9 := Go.Lib.hid (HBN.out.alt hr9 hb9 hg9); obtain ⟨g4, gf4⟩ := HBN.out.grown4 hg9; clear hr9 hb9 hg9 hat9)
                | (go_simp; go_at_call 83; refine (clone_calls a.f1 A1 c1 _ (Kd.C_below HQ2.out (below_drew (Below.refl _ _))) HLA.out).mono ?_; rintro e wn ⟨v7, rfl, hr7, hb7⟩; obtain ⟨A7, c7, rfl⟩ := Kd.R_slice hr7; have HBN := Go.Lib.hid (HBD.out.lift hb7); have HR7 := Go.Lib.hid (Kd.R_lower (Kd.R_newR hr7 HBD.out.r4) HBD.out.bl.size); have z0 := ((HXA.out.below (below_drew (Below.refl _ _))).below hb7).cells.1; obtain ⟨-, z4, zf4⟩ := HBN.out.cells; have Z4 : ∀ o, (wn.alloc o).cell? ⟨b, 4, none⟩ = some v4 := (fun o => (HBN.out.lift (below_alloc (Below.refl _ _) o)).cells.2.1); clear hr7 hb7))
              all_goals
                go_wp2_with fail
                go_roundg (gk - 1)
                case measure => have := hj.out; have := HJ.out; omega
                case rel => exact ⟨j + 1, .slice A9 (al.length + 1) c9, Go.Lib.hid (by have := hj.out; have := HJ.out; omega), by go_num, Go.Lib.hid (by have h := HB9.out; rw [List.length_append, List.length_singleton] at h; rw [HTK.out]; exact h)⟩
            · have hd : decide ((j : Int) < (x.f4.length : Int)) = false := decide_eq_false (by omega)
              have hd2 : decide (j < x.f4.length) = false := decide_eq_false hlt
              have HB4 := Go.Lib.hid (show Bu w1 b x.f0 x.f1 (.slice A5 x.f2.length c5) v3 v4 x.f2 (x.f3.map fun k => ps k.toNat) x.f4 wi by have h := hbu.out; rw [List.take_of_length_le (by omega)] at h; exact h)
              have HNI := Go.Lib.hid (HNA.out.below HB4.out.bl)
              have m0 := blk_frozen HNI.out i
              have m1 := HNI.out.cell0 HI.out
              clear hlt hbu hj
              go_wp2_with fail
              go_roundg (ga - 1)
              case measure => have := hi.out; have := HI.out; omega
              case rel => exact ⟨i + 1, fset ps i b, _, Go.Lib.hid (by have := hi.out; have := HI.out; omega), by go_num, Go.Lib.hid (hgr.out.next HB1.out HB4.out HNI.out HI.out HNX.out)⟩
    · have hd : decide ((i : Int) < (t.length : Int)) = false := decide_eq_false (by omega)
      have hd2 : decide (i < t.length) = false := decide_eq_false hlt
      have HE := Go.Lib.hid (show Gr w wo t t.length ps lo by have h := hgr.out; rw [show i = t.length by have := hi.out; omega] at h; exact h)
      have hl0 : (0 : Int) ≤ (t.length : Int) - 1 := by have := H0.out; omega
      have hl1 : (t.length : Int) - 1 < (t.length : Int) := by omega
      have hl2 : (1 : Int) ≤ (t.length : Int) := by omega
      have hln : ((t.length : Int) - 1).toNat = t.length - 1 := by omega
      have m1 := HE.out.na.cell (t.length - 1) (by have := H0.out; omega) (by have := H0.out; omega)
      clear hlt hgr hi
      go_wp2_with fail
      go_ret
      exact GroP.mk HE.out
end Go.Proofs.YtjhinklijopobaaDoor.Co
