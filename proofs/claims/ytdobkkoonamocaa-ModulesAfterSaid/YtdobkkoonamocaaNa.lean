import Derived.Test.YtdobkkoonamocaaMf
import Derived.Test.YtdobkkoonamocaaNb
import Derived.Test.YtdobkkoonamocaaNc
import Derived.Test.YtdobkkoonamocaaNs
namespace Go.Proofs.Ytdobkkoonamocaa.Mo
open Go.RowKit Go.Proofs.Ytdobkkoonamocaa.PModulesOrdered Go.Proofs.YtdobkkoonamocaaW.PrintWords Go.Proofs.YtdobkkoonamocaaW.PrintLast Go.Proofs.YtdobkkoonamocaaW.PrintMore
set_option linter.unusedVariables false
theorem Tri.appR {w : World} {g : Nat} {vA v1 : Value} {xa : List Int} {vB : Value} {xb : List ByteArray} {vx : Value} {W W1 : World} {y : ByteArray} (h : Tri w g vA xa vB xb vx W) (ho : W1.ownsRow w.heap.size 9 1 v1 (xb ++ [y]).length (encs Value.string (xb ++ [y]))) (hg : W.grownBy W1 vB.ownBlock) : Tri w g vA xa v1 (xb ++ [y]) vx W1 :=
  ⟨own_other h.own3 hg (own_type_ne h.own3 h.own9 (by decide)), ho, blk_grown h.box hg (own_ne h.own9 h.box (by decide)), h.below.grown hg h.below.size (own_base h.own9)⟩
theorem tri_len {w W : World} {g c : Nat} {dn : List ByteArray} {s : ByteArray} {A : Option Addr} {vA : Value} {xa : List Int} (h : Tri w g vA xa (.slice A (dn ++ [s]).length c) (dn ++ [s]) (.slice A (dn ++ [s]).length c) (W.setCell ⟨g, 0, none⟩ (.slice A (dn ++ [s]).length c))) : Tri w g vA xa (.slice A (dn ++ [s]).length c) (dn ++ [s]) (.slice A (dn ++ [s]).length c) (W.setCell ⟨g, 0, none⟩ (.slice A (dn.length + 1) c)) := by
  have e : (dn ++ [s]).length = dn.length + 1 := by simp
  rw [e] at h ⊢
  exact h
/-- The list that After answers with. -/
def cs (out : List ByteArray) : List Str := Go.Lib.compact ((dS out).mergeSort leS)
/-- What After answers. -/
def AfterPost (N : List ByteArray) (I : List (List ByteArray)) (C : List ByteArray) (w : World) (e : Ending) (w' : World) : Prop :=
  ((∃ s ∈ C, hasB N s = false) ∧ e = .returned (.tuple #[.slice none 0 0, .int .i64 6])) ∨
  ((∀ s ∈ C, hasB N s = true) ∧ ∃ (out : List ByteArray) (A : Option Addr) (c : Nat), AfterOk N.length (nm N) (im I) (C.map ByteArray.toList) (out.map ByteArray.toList) ∧ e = .returned (.tuple #[.slice A (cs out).length c, .int .i64 0]) ∧ w'.ownsRow w.heap.size 9 1 (.slice A (cs out).length c) (cs out).length ((cs out).map encStr))
theorem sort_dn {B : Nat} {W : World} {A : Option Addr} {c : Nat} {dn : List ByteArray} (h : W.ownsRow B 9 1 (.slice A dn.length c) dn.length (encs Value.string dn)) (hn : dn.length < 8796093022000) (hB : B ≤ W.heap.size) :
    Calls Try.prog 14 #[.slice A dn.length c] W fun e w' => e = .returned (.tuple #[]) ∧ w'.ownsRow B 9 1 (.slice A dn.length c) dn.length (((dS dn).mergeSort leS).map encStr) ∧ W.grownBy w' (Value.slice A dn.length c).ownBlock ∧ Below B W w' := by
  have h1 := sort_own (ss := dS dn) (W := W) (A := A) (c := c) (B := B) (by rw [dS_length, ← dS_enc]; exact h) (by rw [dS_length]; omega) hB
  rw [dS_length] at h1
  exact h1
theorem compact_dn {B : Nat} {W : World} {A : Option Addr} {c : Nat} {dn : List ByteArray} (h : W.ownsRow B 9 1 (.slice A dn.length c) dn.length (((dS dn).mergeSort leS).map encStr)) (hn : dn.length < 8796093022000) (hB : B ≤ W.heap.size) :
    Calls Try.prog 22 #[.slice A dn.length c] W fun e w' => e = .returned (.slice A (cs dn).length c) ∧ w'.ownsRow B 9 1 (.slice A (cs dn).length c) (cs dn).length ((cs dn).map encStr) ∧ W.grownBy w' (Value.slice A dn.length c).ownBlock ∧ Below B W w' := by
  have hl : ((dS dn).mergeSort leS).length = dn.length := by rw [List.length_mergeSort, dS_length]
  have h1 := compact_own (ss := (dS dn).mergeSort leS) (W := W) (A := A) (c := c) (B := B) (by rw [hl]; exact h) (by rw [hl]; omega) hB
  rw [hl] at h1
  exact h1
set_option maxHeartbeats 8000000 in
set_option maxRecDepth 100000 in
theorem after_ok (N C : List ByteArray) (I : List (List ByteArray)) (A0 A1 A2 : Option Addr) (c0 c1 c2 : Nat) (w : World) (hN : N.length ≤ 16) (hI : I.length = N.length) (hl : ∀ l ∈ I, l.length < LIM) (hC : C.length < 8796093021953) (hr0 : Kd.C Kd.string w A0 N.length N) (hc0 : N.length ≤ c0) (hr1 : Kd.C (Kd.slice 9 Kd.string) w A1 I.length I) (hc1 : I.length ≤ c1) (hr2 : Kd.C Kd.string w A2 C.length C) (hc2 : C.length ≤ c2) (he : mErr N I = 0) :
    Calls Try.prog 11 #[.slice A0 N.length c0, .slice A1 I.length c1, .slice A2 C.length c2] w fun e w' => AfterPost N I C w e w' ∧ Below w.heap.size w w' := by
  have HC := Go.Lib.hid (check_calls N I A0 A1 c0 c1 w hl hr0 hc0 hr1 hc1)
  have HE := Go.Lib.hid he
  have HR2 := Go.Lib.hid hr2
  have HR0 := Go.Lib.hid hr0
  have hN16 := Go.Lib.hid hN
  have hn : (N.length : Int) ≤ 16 := by omega
  have hn0 : (0 : Int) ≤ (N.length : Int) := by omega
  have HR1 := Go.Lib.hid hr1
  have HI := Go.Lib.hid hI
  have HL := Go.Lib.hid hl
  clear he hl hI hN hr0 hr1 hr2
  go_enter Try.func11, Try.ntmps11
  go_wp2_with fail
  refine HC.out.mono ?_
  rintro e w1 ⟨rfl, hd⟩
  rw [HE.out]
  go_wp2_with fail
  have hT0 := Go.Lib.hid (show Tri w w1.heap.size (.slice none 0 0) [] (.slice none 0 0) [] (.slice none 0 0) (w1.alloc (.cells #[.slice none 0 0] 22)) from ⟨own_nil _ _ _ _, own_nil _ _ _ _, blk_new _ _, below_alloc hd.below _⟩)
  have hgs := Go.Lib.hid hd.below.size
  clear hd
  generalize w1.alloc (.cells #[.slice none 0 0] 22) = w2 at *
  generalize w1.heap.size = g at *
  go_loopg [23] C.length (fun k v23 wr => ∃ (i : Nat) (dn : List ByteArray) (A' : Option Addr) (c' : Nat), Hid (i + k = C.length) ∧ v23 = .int .i64 i ∧ Hid (dn = C.take i) ∧ Hid (∀ s ∈ dn, hasB N s = true) ∧ Hid (Tri w g (.slice none 0 0) [] (.slice A' dn.length c') dn (.slice A' dn.length c') wr))
  case atStart => exact ⟨0, [], none, 0, Go.Lib.hid (by omega), rfl, Go.Lib.hid rfl, Go.Lib.hid (by simp), hT0⟩
  case round =>
    clear hT0
    obtain ⟨i, dn, A', c', hi, rfl, hdn, hall, hT⟩ := hrel
    by_cases hlt : i < C.length
    · have hlt' : (i : Int) < (C.length : Int) := by omega
      obtain ⟨ad, rfl, x0⟩ := at_S (Kd.C_below HR2.out hT.out.below) hlt
      have hcon := Go.Lib.hid (contains_calls N (sx C (i : Int)) A0 c0 wr (by unfold LIM; have := hN16.out; omega) (Kd.C_below HR0.out hT.out.below) hc0)
      have hnx := Go.Lib.hid (take_sx hlt)
      have hdl : dn.length < 8796093021953 := by rw [hdn.out, List.length_take]; omega
      have hin := Go.Lib.hid (show sx C (i : Int) ∈ C by rw [sx_get hlt]; exact List.getElem_mem _)
      generalize sx C (i : Int) = s at *
      generalize hB : hasB N s = b at hcon
      have HB := Go.Lib.hid hB
      have HLT := Go.Lib.hid hlt
      clear hlt hB
      go_wp2_with fail
      refine hcon.out.mono ?_
      rintro e w5 ⟨rfl, hd5⟩
      have hT5 := Go.Lib.hid (hT.out.lift hd5.below)
      clear hd5 hcon
      cases b
      · go_wp2_with fail
        go_ret2
        exact ⟨.inl ⟨⟨s, hin.out, HB.out⟩, rfl⟩, hT5.out.below⟩
      · have bx : w5.cell? ⟨g, 0, none⟩ = some (.slice A' dn.length c') := (blk_cell hT5.out.box 0).trans rfl
        have hs9 := Go.Lib.hid (show ∀ x ∈ dn ++ [s], hasB N x = true from fun x hx => by
          rcases List.mem_append.1 hx with h | h
          · exact hall.out x h
          · rw [List.mem_singleton.1 h]; exact HB.out)
        have hd9 := Go.Lib.hid (show dn ++ [s] = C.take (i + 1) by rw [hnx.out, hdn.out])
        clear hT
        go_wp2_with ((with_reducible refine gate_builtin (b := .append) (xs := #[.tmp 31, .tmp 33]) rfl ?_); at_builtin; refine print_append_of (w0 := w) Value.string w.heap.size rfl (.tmp 31) (.tmp 33) 22 9 (.string ⟨#[]⟩) 16 rfl Try.underlying22 info9 rfl (by decide) (.slice A' dn.length c') dn s rfl (by first | rfl | (go_simp; done) | (go_simp; rfl)) rfl ?q1 ?q2 ?q3 ?q4 ?_; (case q1 => exact hT5.out.own9); (case q2 => exact hT5.out.below); (case q3 => exact hT5.out.below.size); (case q4 => omega); intro v1 w9 ho9 hb9 hg9 hat9; obtain ⟨A9, c9, rfl⟩ := own_slice ho9; have HT9 := Go.Lib.hid (hT5.out.appR ho9 hg9); have HF := Go.Lib.hid (HT9.out.store hgs.out (.slice A9 (dn ++ [s]).length c9)); have y0 : w9.cell? ⟨g, 0, none⟩ = some (.slice A' dn.length c') := (blk_cell HT9.out.box 0).trans rfl; have y1 : w9.frozen? ⟨g, 0, none⟩ = false := blk_frozen HT9.out.box 0; clear ho9 hb9 hg9 hat9 bx HT9 hT5)
        go_roundg (gk - 1)
        case measure => have := hi.out; have := HLT.out; omega
        case rel => exact ⟨i + 1, dn ++ [s], A9, c9, Go.Lib.hid (by have := hi.out; have := HLT.out; omega), by go_num, hd9, hs9, Go.Lib.hid (tri_len HF.out)⟩
    · have hlt' : ¬ (i : Int) < (C.length : Int) := by omega
      have hdC := Go.Lib.hid (show dn = C by rw [hdn.out]; exact List.take_of_length_le (by omega))
      clear hlt hdn
      have hG0 := Go.Lib.hid (show GB N I C dn from by rw [hdC.out]; exact GB.start (by rw [← hdC.out]; exact hall.out))
      have HNM := Go.Lib.hid (show ∀ s ∈ C, hasB N s = true by rw [← hdC.out]; exact hall.out)
      clear hall hdC hi
      go_wp2_with fail
      go_loopg [12] (N.length + 1) (fun k v12 wr => ∃ (ag : Bool) (dn : List ByteArray) (A' : Option Addr) (c' : Nat), v12 = .bool ag ∧ Hid (ag = true → cntN N dn < k) ∧ Hid (ag = false → ∀ a, a < N.length → addB N I dn a = false) ∧ Hid (GB N I C dn) ∧ Hid (Tri w g (.slice none 0 0) [] (.slice A' dn.length c') dn (.slice A' dn.length c') wr))
      case atStart => exact ⟨true, dn, A', c', rfl, Go.Lib.hid (fun _ => by have := cntN_le N dn; omega), Go.Lib.hid (fun h => by cases h), hG0, hT⟩
      case round =>
        clear hG0 hT
        obtain ⟨ag, dn, A', c', rfl, hcnt, hfull, hG, hT⟩ := hrel
        obtain ⟨gkO, hgkO⟩ : ∃ m, m = gk := ⟨_, rfl⟩
        have hGK := Go.Lib.hid hgkO
        cases ag
        · have hok := Go.Lib.hid (hG.out.ok (hfull.out rfl))
          clear hcnt hfull
          have bx : wr.cell? ⟨g, 0, none⟩ = some (.slice A' dn.length c') := (blk_cell hT.out.box 0).trans rfl
          have hdn2 : dn.length < 8796093022000 := by have := hG.out.len; have := hN16.out; omega
          have hS := Go.Lib.hid (sort_dn hT.out.own9 hdn2 hT.out.below.size)
          have hdn3 := Go.Lib.hid hdn2
          clear hG
          go_wp2_with fail
          refine hS.out.mono ?_
          rintro e w5 ⟨rfl, hown5, hgr5, hb5⟩
          have bx5 : w5.cell? ⟨g, 0, none⟩ = some (.slice A' dn.length c') := (blk_cell (blk_grown hT.out.box hgr5 (own_ne hT.out.own9 hT.out.box (by decide))) 0).trans rfl
          have hb6 := Go.Lib.hid (hT.out.below.trans hb5)
          have hK := Go.Lib.hid (compact_dn hown5 hdn3.out hb6.out.size)
          clear hown5 hgr5 hb5 bx hT hS hdn2
          go_wp2_with fail
          refine hK.out.mono ?_
          rintro e w6 ⟨rfl, hown6, hgr6, hb7⟩
          have HO := Go.Lib.hid hown6
          have HB7 := Go.Lib.hid (hb6.out.trans hb7)
          clear hown6 hgr6 hb7 bx5 hK
          go_wp2_with fail
          go_ret2
          exact ⟨.inr ⟨HNM.out, dn, A', c', hok.out, rfl, HO.out⟩, HB7.out⟩
        · have hcn := Go.Lib.hid (hcnt.out rfl)
          clear hcnt hfull
          go_wp2_with fail
          obtain ⟨dn0, hdn0⟩ : ∃ d, d = dn := ⟨_, rfl⟩
          have hcn0 := Go.Lib.hid (show cntN N dn0 < gkO by rw [hdn0, hgkO]; exact hcn.out)
          go_loopg [12, 39] N.length (fun k v12 v39 wr => ∃ (i : Nat) (ag : Bool) (dn : List ByteArray) (A' : Option Addr) (c' : Nat), Hid (i + k = N.length) ∧ v12 = .bool ag ∧ v39 = .int .i64 i ∧ Hid (ag = true → cntN N dn < cntN N dn0) ∧ Hid (ag = false → dn = dn0 ∧ ∀ a, a < i → addB N I dn0 a = false) ∧ Hid (GB N I C dn) ∧ Hid (Tri w g (.slice none 0 0) [] (.slice A' dn.length c') dn (.slice A' dn.length c') wr))
          case atStart => exact ⟨0, false, dn, A', c', Go.Lib.hid (by omega), rfl, rfl, Go.Lib.hid (fun h => by cases h), Go.Lib.hid (fun _ => ⟨hdn0.symm, fun a h => by omega⟩), hG, hT⟩
          case round =>
            clear hG hT hcn hdn0
            obtain ⟨i, ag, dn, A', c', hi, rfl, rfl, hlo, hfu, hG, hT⟩ := hrel
            by_cases hli : i < N.length
            · have hli' : (i : Int) < (N.length : Int) := by omega
              have hiI : (i : Int) < (I.length : Int) := by have := HI.out; omega
              have HLI := Go.Lib.hid hli
              obtain ⟨ad0, rfl, x0⟩ := at_S (Kd.C_below HR0.out hT.out.below) hli
              obtain ⟨ad1, A3, c3, rfl, x1, hc3, hC3⟩ := at_L1 (Kd.C_below HR1.out hT.out.below) (i : Int) (by omega) hiI
              rw [Int.toNat_natCast] at x1
              have bx : wr.cell? ⟨g, 0, none⟩ = some (.slice A' dn.length c') := (blk_cell hT.out.box 0).trans rfl
              have hdcap := own_cap hT.out.own9
              have hdlim : dn.length < LIM := by have := hG.out.len; have := hN16.out; unfold LIM; omega
              have hdlen : dn.length < 8796093022000 := by have := hG.out.len; have := hN16.out; omega
              have hcon := Go.Lib.hid (contains_calls dn (sx N (i : Int)) A' c' wr hdlim (own_C hT.out.own9) hdcap)
              have hme : rd_L1 I (i : Int) ∈ I := by rw [rd_L1_get (by omega)]; exact List.getElem_mem _
              have hfun := Go.Lib.hid (fun (W : World) (hW : Drawn0 wr W) => containsFunc_calls21 (rd_L1 I (i : Int)) (fun s => hasB dn s) g W A3 c3 (HL.out _ hme) (Kd.C_below hC3 hW.below) (closure21 dn A' c' g W hdlim hdcap (pw_cell_below hW.below bx) (Kd.C_below (own_C hT.out.own9) hW.below)))
              have hpo := Go.Lib.hid (show addB N I dn i = (!hasB dn (sx N (i : Int)) && ((rd_L1 I (i : Int)).any fun s => hasB dn s)) from rfl)
              have hga := Go.Lib.hid (show addB N I dn i = true → GB N I C (dn ++ [sx N (i : Int)]) from fun h => hG.out.add HLI.out h)
              have hcs := Go.Lib.hid (show hasB dn (sx N (i : Int)) = false → cntN N (dn ++ [sx N (i : Int)]) + 1 ≤ cntN N dn from fun h => cntN_snoc HLI.out h)
              have hno := Go.Lib.hid (show addB N I dn i = false → (ag = false → dn = dn0 ∧ ∀ a, a < i + 1 → addB N I dn0 a = false) from fun h h2 => by
                obtain ⟨e, h3⟩ := hfu.out h2
                refine ⟨e, fun a ha => ?_⟩
                rcases Nat.lt_or_eq_of_le (Nat.le_of_lt_succ ha) with h4 | rfl
                · exact h3 a h4
                · rw [← e]; exact h)
              have hle := Go.Lib.hid (show cntN N dn ≤ cntN N dn0 from by
                cases ag
                · rw [(hfu.out rfl).1]; exact Nat.le_refl _
                · have := hlo.out rfl; omega)
              generalize sx N (i : Int) = s1 at *
              generalize rd_L1 I (i : Int) = l at *
              generalize hasB dn s1 = b1 at hcon hpo hcs
              generalize (l.any fun s => hasB dn s) = b2 at hfun hpo
              clear hli hC3 hme hdcap hdlim hfu
              go_wp2_with fail
              refine hcon.out.mono ?_
              rintro e w5 ⟨rfl, hd5⟩
              have D5 := Go.Lib.hid hd5
              have y1 := pw_cell_below hd5.below x1
              have hT5 := Go.Lib.hid (hT.out.lift hd5.below)
              clear hd5 x1
              cases b1
              · have hcs' := Go.Lib.hid (hcs.out rfl)
                clear hcs
                go_wp2_with fail
                refine (hfun.out _ D5.out).mono ?_
                rintro e w6 ⟨rfl, hd6⟩
                have hT6 := Go.Lib.hid (hT5.out.lift hd6.below)
                clear hd6 y1 bx hT5 hT hfun hcon
                cases b2
                · have hn' := Go.Lib.hid (hno.out (by rw [hpo.out]; rfl))
                  clear hno hga
                  go_wp2_with fail
                  go_roundg (gk - 1)
                  case measure => have := hi.out; have := HLI.out; omega
                  case rel => exact ⟨i + 1, ag, dn, A', c', Go.Lib.hid (by have := hi.out; have := HLI.out; omega), rfl, by go_num, hlo, hn', hG, hT6⟩
                · have hG9 := Go.Lib.hid (hga.out (by rw [hpo.out]; rfl))
                  have hc9 := Go.Lib.hid (show cntN N (dn ++ [s1]) < cntN N dn0 by have := hcs'.out; have := hle.out; omega)
                  clear hno hga
                  have bx : w6.cell? ⟨g, 0, none⟩ = some (.slice A' dn.length c') := (blk_cell hT6.out.box 0).trans rfl
                  go_wp2_with ((with_reducible refine gate_builtin (b := .append) (xs := #[.tmp 56, .tmp 58]) rfl ?_); at_builtin; refine print_append_of (w0 := w) Value.string w.heap.size rfl (.tmp 56) (.tmp 58) 22 9 (.string ⟨#[]⟩) 16 rfl Try.underlying22 info9 rfl (by decide) (.slice A' dn.length c') dn s1 rfl (by first | rfl | (go_simp; done) | (go_simp; rfl)) rfl ?q1 ?q2 ?q3 ?q4 ?_; (case q1 => exact hT6.out.own9); (case q2 => exact hT6.out.below); (case q3 => exact hT6.out.below.size); (case q4 => omega); intro v1 w9 ho9 hb9 hg9 hat9; obtain ⟨A9, c9, rfl⟩ := own_slice ho9; have HT9 := Go.Lib.hid (hT6.out.appR ho9 hg9); have HF := Go.Lib.hid (HT9.out.store hgs.out (.slice A9 (dn ++ [s1]).length c9)); have y0 : w9.cell? ⟨g, 0, none⟩ = some (.slice A' dn.length c') := (blk_cell HT9.out.box 0).trans rfl; have y1 : w9.frozen? ⟨g, 0, none⟩ = false := blk_frozen HT9.out.box 0; clear ho9 hb9 hg9 hat9 bx HT9 hT6)
                  go_roundg (gk - 1)
                  case measure => have := hi.out; have := HLI.out; omega
                  case rel => exact ⟨i + 1, true, dn ++ [s1], A9, c9, Go.Lib.hid (by have := hi.out; have := HLI.out; omega), rfl, by go_num, Go.Lib.hid (fun _ => hc9.out), Go.Lib.hid (fun h => by cases h), hG9, Go.Lib.hid (tri_len HF.out)⟩
              · have hn' := Go.Lib.hid (hno.out (by rw [hpo.out]; rfl))
                clear hno hga hcs hfun hcon bx
                go_wp2_with fail
                go_roundg (gk - 1)
                case measure => have := hi.out; have := HLI.out; omega
                case rel => exact ⟨i + 1, ag, dn, A', c', Go.Lib.hid (by have := hi.out; have := HLI.out; omega), rfl, by go_num, hlo, hn', hG, hT5⟩
            · have hli' : ¬ (i : Int) < (N.length : Int) := by omega
              have hful := Go.Lib.hid (show ag = false → ∀ a, a < N.length → addB N I dn a = false from fun h a ha => by
                obtain ⟨e, h3⟩ := hfu.out h
                rw [e]; exact h3 a (by have := hi.out; omega))
              have hcn2 := Go.Lib.hid (show ag = true → cntN N dn < gkO - 1 from fun h => by have := hlo.out h; have := hcn0.out; omega)
              have hgp := Go.Lib.hid (show gkO - 1 < gkO by have := hcn0.out; omega)
              clear hli hfu hlo
              go_wp2_with fail
              go_roundg (gkO - 1)
              case measure => have := hgp.out; have := hGK.out; omega
              case rel => exact ⟨ag, dn, A', c', rfl, hcn2, hful, hG, hT⟩
end Go.Proofs.Ytdobkkoonamocaa.Mo
