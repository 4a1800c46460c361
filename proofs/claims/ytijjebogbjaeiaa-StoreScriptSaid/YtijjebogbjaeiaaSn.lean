import Derived.Test.YtijjebogbjaeiaaSo
import Derived.Deep.CutRange
import Derived.Deep.DeepCutAuto
import Derived.Deep.CutBlock
import Derived.Deep.QuietTactic
import Derived.BigQuiet
namespace Go.Proofs.Ytijjebogbjaeiaa.St
open Go.Shelf Go.RowKit Go.Proofs.Ytijjebogbjaeiaa.PStoreScript Go.Proofs.YtijjebogbjaeiaaW.PrintWords Go.Proofs.YtijjebogbjaeiaaW.PrintLast Go.Proofs.YtijjebogbjaeiaaW.PrintMore
set_option linter.unusedVariables false
set_option linter.unusedSimpArgs false

theorem rdOf_nat (T : List ByteArray) (i : Nat) (hi : i < T.length) : rdOf ByteArray.empty T (i : Int) = T[i] := by
  unfold rdOf
  rw [Int.toNat_natCast, List.getD_eq_getElem?_getD, List.getElem?_eq_getElem hi]; rfl
theorem J.start {w w4 : World} {sb rb mb : Nat} {room : Int} (h : Sto w4 sb rb mb room []) (hb : Below w.heap.size w w4) (ho : ∀ k, Own sb rb mb [] k → w.heap.size ≤ k) : J w (w4.alloc (kob room none 0 0)) sb rb mb w4.heap.size room [] [] none 0 :=
  ⟨h.below ((Below.refl w4.heap.size w4).alloc (Nat.le_refl _) _) h.own_lt, blk_new _ _, Kd.R_nil _ _ _ _ _, hb.alloc hb.size _, ho, hb.size, fun hk => by have := h.own_lt _ hk; omega⟩

/-- Two rows that read alike. -/
def EqR (w : World) (gs : List ByteArray) (Aa : Option Addr) (ca : Nat) (Ab : Option Addr) (cb : Nat) : Prop := (Kd.C Kd.string w Aa gs.length gs ∧ gs.length ≤ ca) ∧ (Kd.C Kd.string w Ab gs.length gs ∧ gs.length ≤ cb) ∧ gs.length ≤ 16777216
theorem EqR.nil (w : World) : EqR w [] none 0 none 0 := ⟨⟨Kd.C_nil _ _, Nat.le_refl _⟩, ⟨Kd.C_nil _ _, Nat.le_refl _⟩, by simp⟩

theorem Own.perm {sb rb mb : Nat} {its its' : List It} (h : its.Perm its') {k : Nat} (hk : Own sb rb mb its k) : Own sb rb mb its' k := by
  rcases hk with hk | hk | hk
  · exact Or.inl hk
  · exact Or.inr (Or.inl hk)
  · refine Or.inr (Or.inr ?_)
    rcases List.mem_cons.1 hk with h1 | h1
    · exact List.mem_cons.2 (Or.inl h1)
    · exact List.mem_cons.2 (Or.inr ((h.map It.b).mem_iff.1 h1))
theorem Own.sub {sb rb mb : Nat} {its its' : List It} (h : ∀ x ∈ its, x ∈ its') {k : Nat} (hk : Own sb rb mb its k) : Own sb rb mb its' k := by
  rcases hk with hk | hk | hk
  · exact Or.inl hk
  · exact Or.inr (Or.inl hk)
  · refine Or.inr (Or.inr ?_)
    rcases List.mem_cons.1 hk with h1 | h1
    · exact List.mem_cons.2 (Or.inl h1)
    · obtain ⟨x, hx, e⟩ := List.mem_map.1 h1
      exact List.mem_cons.2 (Or.inr (List.mem_map.2 ⟨x, h x hx, e⟩))
theorem Own.new {sb rb mb B bx : Nat} {its its1 : List It} {key value : ByteArray} {N : Nat} (hi : its1 = its.filter (fun x => decide (x.k ≠ key))) (hb : B ≤ bx) {k : Nat} (hk : Own sb rb mb (⟨key, value, bx⟩ :: its1.take N) k) : Own sb rb mb its k ∨ B ≤ k := by
  rcases hk with hk | hk | hk
  · exact Or.inl (Or.inl hk)
  · exact Or.inl (Or.inr (Or.inl hk))
  · simp only [List.map_cons, List.mem_cons] at hk
    rcases hk with h1 | h1 | h1
    · exact Or.inl (Or.inr (Or.inr (List.mem_cons.2 (Or.inl h1))))
    · exact Or.inr (by rw [h1]; exact hb)
    · obtain ⟨x, hx, e⟩ := List.mem_map.1 h1
      have h2 := List.mem_of_mem_take hx
      rw [hi] at h2
      exact Or.inl (Or.inr (Or.inr (List.mem_cons.2 (Or.inr (List.mem_map.2 ⟨x, (List.mem_filter.1 h2).1, e⟩)))))

/-- What region 26 and the inner loop call. -/
theorem J.used {w0 w : World} {sb rb mb gb : Nat} {room : Int} {its : List It} {xs : List S45} {A : Option Addr} {c : Nat} (h : J w0 w sb rb mb gb room its xs A c) (W : World) (hb : Below w.heap.size w W) :
    Calls Try.prog 5 #[.pointer (some ⟨sb, 0, none⟩)] W fun e w' => e = .returned (.int .i64 (tot its)) ∧ w' = W := used_calls W sb rb mb room its (h.up hb).sto
theorem J.bytes {w0 w : World} {sb rb mb gb : Nat} {room : Int} {its : List It} {xs : List S45} {A : Option Addr} {c : Nat} (h : J w0 w sb rb mb gb room its xs A c) (hx : xs = its.map pr) (W : World) (hb : Below w.heap.size w W) :
    Calls Try.prog 13 #[.agg #[.int .i64 room, .slice A xs.length c]] W fun e w' => e = .returned (.int .i64 (tot its)) ∧ Below W.heap.size W w' := by
  obtain ⟨h1, h2, h3⟩ := h.bounds hx
  obtain ⟨-, h4, h5⟩ := Kd.R_reads' (h.up hb).row
  have hf := by_f xs room (by omega) (by rw [h2]; omega) (xs.length + 1) (by omega)
  rw [h2] at hf
  exact provenanceref1_Kept_Bytes.calls (xs.length + 1) room A c xs (tot its) W h5 h4 hf
theorem J.keys {w0 w : World} {sb rb mb gb : Nat} {room : Int} {its : List It} {xs : List S45} {A : Option Addr} {c : Nat} (h : J w0 w sb rb mb gb room its xs A c) (hx : xs = its.map pr) (W : World) (hb : Below w.heap.size w W) :
    Calls Try.prog 14 #[.pointer (some ⟨sb, 0, none⟩)] W fun e w' => ∃ A', e = .returned (.slice A' xs.length xs.length) ∧ Kd.C Kd.string w' A' xs.length (its.map It.k) ∧ Below W.heap.size W w' := by
  have hl : xs.length = (its.map It.k).length := by rw [hx]; simp
  rw [hl]
  exact keys_calls W sb rb mb room its (h.up hb).sto
theorem EqR.equal {w : World} {gs : List ByteArray} {Aa : Option Addr} {ca : Nat} {Ab : Option Addr} {cb : Nat} (h : EqR w gs Aa ca Ab cb) (W : World) (hb : Below w.heap.size w W) :
    Calls Try.prog 12 #[.slice Aa gs.length ca, .slice Ab gs.length cb] W fun e w' => e = .returned (.bool true) ∧ Below W.heap.size W w' := by
  refine (slices_Equal_string_string.calls (gs.length + 1) Aa ca gs Ab cb gs true W (Kd.C_below h.1.1 hb) h.1.2 (Kd.C_below h.2.1.1 hb) h.2.1.2 (eqs_f gs (by have := h.2.2; omega))).mono ?_
  rintro e w' ⟨rfl, hd⟩
  exact ⟨rfl, hd.below⟩
theorem same_at {its : List It} {xs : List S45} (hx : xs = its.map pr) (j : Nat) (hj : j < xs.length) : rdOf ByteArray.empty (its.map It.k) (j : Int) = (rd_T45 xs (j : Int)).f0 := by
  rw [rd_nat xs j hj, rdOf_nat _ j (by rw [hx] at hj; simpa using hj)]
  subst hx
  simp [pr]

set_option maxHeartbeats 40000000 in
set_option maxRecDepth 100000 in
theorem law_calls (room : Int) (T : List ByteArray) (A : Option Addr) (c : Nat) (w : World) (hr : Kd.C Kd.string w A T.length T) (hc : T.length ≤ c) (hsz : ∀ x ∈ T, x.size ≤ 281474976710656) (hlen : T.length ≤ 4611686018427387904) :
    Calls Try.prog 3 #[.int .i64 room, .slice A T.length c] w fun e w' => e = .returned (.bool true) ∧ Below w.heap.size w w' := by
  have HR := Go.Lib.hid hr
  have HSZ := Go.Lib.hid hsz
  have HLEN := Go.Lib.hid hlen
  clear hr hsz hlen hc
  go_enter Try.func3, Try.ntmps3
  go_wp2_with fail
  refine (new_ok w 4 (by decide) (by decide)).mono ?_
  rintro e w1 ⟨sb1, rb1, mb1, rfl, hs1, hb1, ho1⟩
  have HS1 := Go.Lib.hid hs1
  have HB1 := Go.Lib.hid hb1
  have HO1 := Go.Lib.hid ho1
  clear hs1 hb1 ho1
  go_wp2_with fail
  refine (used_calls w1 sb1 rb1 mb1 4 [] HS1.out).mono ?_
  rintro e w2 ⟨rfl, hw2⟩
  simp only [tot]
  have HW2 := Go.Lib.hid hw2
  clear hw2
  go_wp2_with fail
  refine (drop_none w2 sb1 rb1 mb1 4 [] ⟨#[97]⟩ (by rw [HW2.out]; exact HS1.out) (by decide) (by simp)).mono ?_
  rintro e w3 ⟨rfl, hs3, hf3⟩
  have HB3 := Go.Lib.hid (show Below w.heap.size w w3 from Fr.below HB1.out (by rw [← HW2.out]; exact hf3) HO1.out)
  clear hs3 hf3
  by_cases hbad : room < 0 ∨ 16777216 < room
  · have hdec : decide (room < 0) = true ∨ (decide (room < 0) = false ∧ decide (16777216 < room) = true) := by
      rcases hbad with h | h
      · exact Or.inl (decide_eq_true h)
      · by_cases h2 : room < 0
        · exact Or.inl (decide_eq_true h2)
        · exact Or.inr ⟨decide_eq_false h2, decide_eq_true h⟩
    have HBAD := Go.Lib.hid hbad
    clear hbad
    rcases hdec with hd | ⟨hd, hd2⟩
    all_goals
      go_wp2_with fail
      refine (new_bad w3 room HBAD.out).mono ?_
      rintro e w4 ⟨rfl, hw4⟩
      have HW4 := Go.Lib.hid hw4
      clear hw4
      go_wp2_with fail
      go_ret
      exact ⟨rfl, by rw [HW4.out]; exact HB3.out⟩
  · have h0 : 0 ≤ room := by omega
    have h1 : room ≤ 16777216 := by omega
    have hd : decide (room < 0) = false := decide_eq_false (by omega)
    have hd2 : decide (16777216 < room) = false := decide_eq_false (by omega)
    have H0 := Go.Lib.hid h0
    have H1 := Go.Lib.hid h1
    clear h0 h1 hbad
    go_wp2_with fail
    refine (new_ok w3 room H0.out H1.out).mono ?_
    rintro e w4 ⟨sb, rb, mb, rfl, hs4, hb4, ho4⟩
    have HS4 := Go.Lib.hid hs4
    have HB4 := Go.Lib.hid (show Below w.heap.size w w4 from HB3.out.trans (hb4.mono HB3.out.size))
    have HO4 := Go.Lib.hid (show ∀ k, Own sb rb mb [] k → w.heap.size ≤ k from fun k hk => Nat.le_trans HB3.out.size (ho4 k hk))
    clear hs4 hb4 ho4 hd hd2
    go_wp2_with fail
    obtain ⟨gb, hgb⟩ : ∃ gb, gb = w4.heap.size := ⟨_, rfl⟩
    rw [← hgb]
    change Code.wp _ _ _ _ (w4.alloc (kob room none 0 0))
    obtain ⟨w5, hw5⟩ : ∃ w5, w5 = w4.alloc (kob room none 0 0) := ⟨_, rfl⟩
    rw [← hw5]
    have HJ5 := Go.Lib.hid (show J w w5 sb rb mb gb room [] [] none 0 by rw [hw5, hgb]; exact J.start HS4.out HB4.out HO4.out)
    clear hgb hw5
    go_loopg [66] T.length (fun g_ v66 w' => ∃ (i : Nat) (its : List It) (xs : List S45) (A2 : Option Addr) (c2 : Nat), Hid (i + g_ = T.length) ∧ v66 = .int .i64 i ∧ Hid (xs = its.map pr) ∧ Hid (J w w' sb rb mb gb room its xs A2 c2))
    case atStart => exact ⟨0, [], [], none, 0, Go.Lib.hid (by omega), rfl, Go.Lib.hid rfl, HJ5⟩
    case round =>
      clear HJ5
      obtain ⟨i, its, xs, A2, c2, hi, rfl, HXS, hJ⟩ := hrel
      by_cases hlt : i < T.length
      · have hlt' : (i : Int) < (T.length : Int) := by omega
        have hi0 : (0 : Int) ≤ (i : Int) := by omega
        obtain ⟨ad, rfl, x0⟩ := Kd.at_string (Kd.C_below HR.out hJ.out.below) (i : Int) hi0 hlt'
        rw [rdOf_nat T i hlt, Int.toNat_natCast] at x0
        have HX := Go.Lib.hid (HSZ.out _ (List.getElem_mem hlt))
        generalize T[i] = x at x0 HX
        have hlen9 : (T.length : Int) ≤ 4611686018427387904 := by have := HLEN.out; omega
        by_cases hx2 : x.size < 2
        · have hd : decide ((x.size : Int) < 2) = true := decide_eq_true (by omega)
          have hd2 : decide (x.size < 2) = true := decide_eq_true hx2
          clear hx2
          go_wp2_with fail
          go_roundg (gk - 1)
          case measure => have := hi.out; omega
          case rel => exact ⟨i + 1, its, xs, A2, c2, Go.Lib.hid (by have := hi.out; omega), by go_num, HXS, hJ⟩
        · have hd : decide ((x.size : Int) < 2) = false := decide_eq_false (by omega)
          have hd2 : decide (x.size < 2) = false := decide_eq_false hx2
          have hx2' : (2 : Int) ≤ (x.size : Int) := by omega
          have hx9 : (x.size : Int) ≤ 281474976710656 := by have := HX.out; omega
          go_wp2_with fail
          go_quiet (fail)
          obtain ⟨w6, hw6⟩ : ∃ w6, w6 = wr.drewN nq := ⟨_, rfl⟩
          rw [← hw6]
          have hJ6 := Go.Lib.hid (show J w w6 sb rb mb gb room its xs A2 c2 by rw [hw6]; exact hJ.out.up (pw_below_drewN (Below.refl _ _) nq))
          have HK1 := Go.Lib.hid (show (x.extract 1 2).size = 1 by rw [ByteArray.size_extract]; omega)
          have HV1 := Go.Lib.hid (show (x.extract 2 x.size).size ≤ 281474976710656 by rw [ByteArray.size_extract]; omega)
          generalize x.extract 1 2 = key at *
          generalize x.extract 2 x.size = value at *
          clear hw6 hJ hd hd2 x0
          have HTL := Go.Lib.hid (show its.length ≤ 16777216 from hJ6.out.sto.len)
          have HLT := Go.Lib.hid hlt
          clear hlt hlt' hi0 hlen9 hx2'
          go_upto_block 2 with fail
          go_cut [16, 17, 18, 19, 20, 21] from 77 to 120 (fun s16 s17 s18 s19 s20 s21 wx => ∃ (e : Int) (vs : ByteArray) (gs : List ByteArray) (Aa : Option Addr) (ca : Nat) (Ab : Option Addr) (cb : Nat) (itsN : List It) (xsN : List S45) (A3 : Option Addr) (c3 : Nat), s16 = .int .i64 e ∧ s17 = .int .i64 e ∧ s18 = .slice Aa gs.length ca ∧ s19 = .slice Ab gs.length cb ∧ s20 = .string vs ∧ s21 = .string vs ∧ Hid (EqR wx gs Aa ca Ab cb) ∧ Hid (xsN = itsN.map pr) ∧ Hid (J w wx sb rb mb gb room itsN xsN A3 c3))
          case first =>
            go_upto_region 20 with fail
            generalize ((x[0]'(by omega)).toNat : Int) % 4 = m
            clear hx2 hx9
            by_cases hm0 : m = 0
            · subst hm0
              rcases find_it its key with hno | ⟨p, y, q, rfl, rfl⟩
              · have HNO := Go.Lib.hid hno
                clear hno
                go_wp2_with fail
                refine (get_none w6 sb rb mb room its key hJ6.out.sto (by rw [HK1.out]; decide) HNO.out).mono ?_
                rintro e w7 ⟨rfl, hs7, hf7⟩
                have HJ7 := Go.Lib.hid (hJ6.out.store hs7 hf7 (fun k h => Or.inl h))
                clear hs7 hf7
                obtain ⟨b0, b1, -, -⟩ := HJ7.out.cells
                go_wp2_with fail
                refine (kget_calls HJ7.out (kget_none HXS.out HTL.out HNO.out)).mono ?_
                rintro e w8 ⟨A3, c3, rfl, hb8, hj8⟩
                have HJ8 := Go.Lib.hid hj8
                have f0 := blk_frozen hb8 0
                have f1 := blk_frozen hb8 1
                have k0 : w8.cell? ⟨gb, 0, none⟩ = some (.int .i64 room) := (blk_cell hb8 0).trans rfl
                have k1 : w8.cell? ⟨gb, 1, none⟩ = some (.slice A2 xs.length c2) := (blk_cell hb8 1).trans rfl
                clear hb8 hj8 b0 b1
                go_wp2_with fail
                go_meet
                exact ⟨12, ⟨#[]⟩, [], none, 0, none, 0, its, xs, A3, c3, rfl, rfl, rfl, rfl, rfl, rfl, Go.Lib.hid (EqR.nil _), HXS, HJ8⟩
              · have hF := kget_some (room := room) HXS.out HTL.out hJ6.out.sto.keys
                obtain ⟨xs2, hx2⟩ : ∃ xs2, xs2 = (y :: (p ++ q)).map pr := ⟨_, rfl⟩
                rw [← hx2] at hF
                have HF := Go.Lib.hid hF
                have HX2 := Go.Lib.hid hx2
                clear hF hx2
                go_wp2_with fail
                refine (get_some w6 sb rb mb room p q y hJ6.out.sto).mono ?_
                rintro e w7 ⟨rfl, hs7, hf7⟩
                have HJ7 := Go.Lib.hid (hJ6.out.store hs7 hf7 (fun k h => Or.inl (Own.perm List.perm_middle.symm h)))
                clear hs7 hf7
                obtain ⟨b0, b1, -, -⟩ := HJ7.out.cells
                go_wp2_with fail
                refine (kget_calls HJ7.out HF.out).mono ?_
                rintro e w8 ⟨A3, c3, rfl, hb8, hj8⟩
                have HJ8 := Go.Lib.hid hj8
                have f0 := blk_frozen hb8 0
                have f1 := blk_frozen hb8 1
                have k0 : w8.cell? ⟨gb, 0, none⟩ = some (.int .i64 room) := (blk_cell hb8 0).trans rfl
                have k1 : w8.cell? ⟨gb, 1, none⟩ = some (.slice A2 xs.length c2) := (blk_cell hb8 1).trans rfl
                clear hb8 hj8 b0 b1
                go_wp2_with fail
                go_meet
                exact ⟨0, y.v, [], none, 0, none, 0, y :: (p ++ q), xs2, A3, c3, rfl, rfl, rfl, rfl, rfl, rfl, Go.Lib.hid (EqR.nil _), HX2, HJ8⟩
            · by_cases hm1 : m = 1
              · subst hm1
                clear hm0
                rcases find_it its key with hno | ⟨p, y, q, rfl, rfl⟩
                · have HNO := Go.Lib.hid hno
                  clear hno
                  go_wp2_with fail
                  refine (drop_none w6 sb rb mb room its key hJ6.out.sto (by rw [HK1.out]; decide) HNO.out).mono ?_
                  rintro e w7 ⟨rfl, hs7, hf7⟩
                  have HJ7 := Go.Lib.hid (hJ6.out.store hs7 hf7 (fun k h => Or.inl h))
                  clear hs7 hf7
                  obtain ⟨b0, b1, -, -⟩ := HJ7.out.cells
                  go_wp2_with fail
                  refine (kdrop_calls HJ7.out (kdrop_none HXS.out HTL.out HNO.out)).mono ?_
                  rintro e w8 ⟨A3, c3, rfl, hb8, hj8⟩
                  have HJ8 := Go.Lib.hid hj8
                  have f0 := blk_frozen hb8 0
                  have f1 := blk_frozen hb8 1
                  have k0 : w8.cell? ⟨gb, 0, none⟩ = some (.int .i64 room) := (blk_cell hb8 0).trans rfl
                  have k1 : w8.cell? ⟨gb, 1, none⟩ = some (.slice A2 xs.length c2) := (blk_cell hb8 1).trans rfl
                  clear hb8 hj8 b0 b1
                  go_wp2_with fail
                  go_meet
                  exact ⟨12, ⟨#[]⟩, [], none, 0, none, 0, its, xs, A3, c3, rfl, rfl, rfl, rfl, rfl, rfl, Go.Lib.hid (EqR.nil _), HXS, HJ8⟩
                · have hF := kdrop_some (room := room) HXS.out HTL.out hJ6.out.sto.keys
                  obtain ⟨xs2, hx2⟩ : ∃ xs2, xs2 = (p ++ q).map pr := ⟨_, rfl⟩
                  rw [← hx2] at hF
                  have HF := Go.Lib.hid hF
                  have HX2 := Go.Lib.hid hx2
                  clear hF hx2
                  go_wp2_with fail
                  refine (drop_some w6 sb rb mb room p q y hJ6.out.sto).mono ?_
                  rintro e w7 ⟨rfl, hs7, hf7⟩
                  have HJ7 := Go.Lib.hid (hJ6.out.store hs7 hf7 (fun k h => Or.inl (Own.sub (fun z hz => by simp only [List.mem_append, List.mem_cons] at hz ⊢; rcases hz with h | h; exact Or.inl h; exact Or.inr (Or.inr h)) h)))
                  clear hs7 hf7
                  obtain ⟨b0, b1, -, -⟩ := HJ7.out.cells
                  go_wp2_with fail
                  refine (kdrop_calls HJ7.out HF.out).mono ?_
                  rintro e w8 ⟨A3, c3, rfl, hb8, hj8⟩
                  have HJ8 := Go.Lib.hid hj8
                  have f0 := blk_frozen hb8 0
                  have f1 := blk_frozen hb8 1
                  have k0 : w8.cell? ⟨gb, 0, none⟩ = some (.int .i64 room) := (blk_cell hb8 0).trans rfl
                  have k1 : w8.cell? ⟨gb, 1, none⟩ = some (.slice A2 xs.length c2) := (blk_cell hb8 1).trans rfl
                  clear hb8 hj8 b0 b1
                  go_wp2_with fail
                  go_meet
                  exact ⟨0, ⟨#[]⟩, [], none, 0, none, 0, p ++ q, xs2, A3, c3, rfl, rfl, rfl, rfl, rfl, rfl, Go.Lib.hid (EqR.nil _), HX2, HJ8⟩
              · have hm0b : (m == 0) = false := beq_eq_false_iff_ne.mpr hm0
                have hm1b : (m == 1) = false := beq_eq_false_iff_ne.mpr hm1
                by_cases hfit : room < (key.size : Int) + (value.size : Int)
                · have HFIT := Go.Lib.hid hfit
                  clear hfit hm0 hm1
                  go_wp2_with fail
                  refine (put_full w6 sb rb mb room its key value hJ6.out.sto HK1.out HV1.out HFIT.out).mono ?_
                  rintro e w7 ⟨rfl, hw7⟩
                  have HJ7 := Go.Lib.hid (show J w w7 sb rb mb gb room its xs A2 c2 by rw [hw7]; exact hJ6.out)
                  clear hw7
                  obtain ⟨b0, b1, -, -⟩ := HJ7.out.cells
                  go_wp2_with fail
                  refine (kput_calls (B0 := w7.heap.size) HJ7.out (kput_full HK1.out HV1.out HFIT.out) (own_nil w7 _ 9 1) HJ7.out.row_lt (blk_lt HJ7.out.box)).mono ?_
                  rintro e w8 ⟨A3, c3, Ab, cb, rfl, hb8, hj8, hcb, -⟩
                  have HCB := Go.Lib.hid hcb
                  clear hcb
                  have HJ8 := Go.Lib.hid hj8
                  have f0 := blk_frozen hb8 0
                  have f1 := blk_frozen hb8 1
                  have k0 : w8.cell? ⟨gb, 0, none⟩ = some (.int .i64 room) := (blk_cell hb8 0).trans rfl
                  have k1 : w8.cell? ⟨gb, 1, none⟩ = some (.slice A2 xs.length c2) := (blk_cell hb8 1).trans rfl
                  clear hb8 hj8 b0 b1
                  go_wp2_with fail
                  go_meet
                  exact ⟨16, ⟨#[]⟩, [], none, 0, Ab, cb, its, xs, A3, c3, rfl, rfl, rfl, rfl, rfl, rfl, Go.Lib.hid ⟨⟨Kd.C_nil _ _, Nat.le_refl _⟩, HCB.out, by simp⟩, HXS, HJ8⟩
                · have HFIT := Go.Lib.hid (show (key.size : Int) + (value.size : Int) ≤ room by omega)
                  clear hfit hm0 hm1
                  go_wp2_with fail
                  refine (put_ok w6 sb rb mb room its key value hJ6.out.sto HK1.out HFIT.out).mono ?_
                  rintro e w7 ⟨Aa, ca, bx, N, its1, gs, rfl, hi1, hN, hgs, hown, hs7, hbx, hf7⟩
                  have HJ7 := Go.Lib.hid (hJ6.out.store hs7 hf7 (fun k h => Own.new hi1 hbx h))
                  have hF := kput_ok (bx := bx) (value := value) HXS.out HTL.out (hJ6.out.bounds HXS.out).2.2 H1.out HK1.out HFIT.out hi1 hN
                  obtain ⟨xs2, hx2⟩ : ∃ xs2, xs2 = (⟨key, value, bx⟩ :: its1.take N : List It).map pr := ⟨_, rfl⟩
                  rw [← hx2, ← hgs] at hF
                  have HF := Go.Lib.hid hF
                  have HX2 := Go.Lib.hid hx2
                  have HGL := Go.Lib.hid (show gs.length ≤ 16777216 by have h1 := HTL.out; have h2 : its1.length ≤ its.length := (by rw [hi1]; exact List.length_filter_le _ _); rw [hgs]; simp; omega)
                  have HOWN := Go.Lib.hid hown
                  clear hF hx2 hi1 hN hgs hown hs7 hbx hf7
                  obtain ⟨b0, b1, -, -⟩ := HJ7.out.cells
                  go_wp2_with fail
                  refine (kput_calls (B0 := w6.heap.size) HJ7.out HF.out HOWN.out hJ6.out.row_lt (blk_lt hJ6.out.box)).mono ?_
                  rintro e w8 ⟨A3, c3, Ab, cb, rfl, hb8, hj8, hcb, hob⟩
                  have HCB := Go.Lib.hid hcb
                  have HOB := Go.Lib.hid hob
                  clear hcb hob
                  have HJ8 := Go.Lib.hid hj8
                  have f0 := blk_frozen hb8 0
                  have f1 := blk_frozen hb8 1
                  have k0 : w8.cell? ⟨gb, 0, none⟩ = some (.int .i64 room) := (blk_cell hb8 0).trans rfl
                  have k1 : w8.cell? ⟨gb, 1, none⟩ = some (.slice A2 xs.length c2) := (blk_cell hb8 1).trans rfl
                  clear hb8 hj8 b0 b1
                  go_wp2_with fail
                  go_meet
                  exact ⟨0, ⟨#[]⟩, gs, Aa, ca, Ab, cb, _, xs2, A3, c3, rfl, rfl, rfl, rfl, rfl, rfl, Go.Lib.hid ⟨⟨strs_C HOB.out, own_cap HOB.out⟩, HCB.out, HGL.out⟩, HX2, HJ8⟩
          case rest =>
            obtain ⟨e, vs, gs, Aa, ca, Ab, cb, itsN, xsN, A3, c3, rfl, rfl, rfl, rfl, rfl, rfl, HEQ, HXN, HJN⟩ := hcut
            clear hJ6 hx2 hx9
            have HKE := Go.Lib.hid (show ∀ W, Below wc.heap.size wc W → W.cell? ⟨gb, 0, none⟩ = some (.int .i64 room) ∧ W.cell? ⟨gb, 1, none⟩ = some (.slice A3 xsN.length c3) ∧ Hid (Below wc.heap.size wc W) from fun W h => ⟨(HJN.out.up h).cells.1, (HJN.out.up h).cells.2.1, Go.Lib.hid h⟩)
            have HUS := Go.Lib.hid HJN.out.used
            have HBY := Go.Lib.hid (HJN.out.bytes HXN.out)
            have HKY := Go.Lib.hid (HJN.out.keys HXN.out)
            have HEC := Go.Lib.hid HEQ.out.equal
            generalize tot itsN = u at *
            go_wp2_with fail
            go_region_held3 (fun w' => w'.cell? ⟨gb, 0, none⟩ = some (.int .i64 room) ∧ w'.cell? ⟨gb, 1, none⟩ = some (.slice A3 xsN.length c3) ∧ Hid (Below wc.heap.size wc w')) (first | exact HKE.out _ hNew.out | exact HKE.out _ (below_drew1 (Below.refl _ _))) (first
              | (go_at_call 12; refine (HEC.out _ (‹_ ∧ _ ∧ Hid (Below wc.heap.size wc _)›).2.2.out).mono ?_; rintro e wn ⟨rfl, hbn⟩; have hNew := Go.Lib.hid (Below.trans (‹_ ∧ _ ∧ Hid (Below wc.heap.size wc _)›).2.2.out (Below.mono hbn (‹_ ∧ _ ∧ Hid (Below wc.heap.size wc _)›).2.2.out.size)); clear hbn)
              | (go_at_call 5; refine (HUS.out _ (‹_ ∧ _ ∧ Hid (Below wc.heap.size wc _)›).2.2.out).mono ?_; rintro e wn ⟨rfl, rfl⟩; have hNew := (‹_ ∧ _ ∧ Hid (Below wc.heap.size wc _)›).2.2)
              | (go_at_call 13; refine (HBY.out _ (‹_ ∧ _ ∧ Hid (Below wc.heap.size wc _)›).2.2.out).mono ?_; rintro e wn ⟨rfl, hbn⟩; have hNew := Go.Lib.hid (Below.trans (‹_ ∧ _ ∧ Hid (Below wc.heap.size wc _)›).2.2.out (Below.mono hbn (‹_ ∧ _ ∧ Hid (Below wc.heap.size wc _)›).2.2.out.size)); clear hbn)
              | (go_at_call 14; refine (HKY.out _ (‹_ ∧ _ ∧ Hid (Below wc.heap.size wc _)›).2.2.out).mono ?_; rintro e wn ⟨Ak, rfl, -, hbn⟩; have hNew := Go.Lib.hid (Below.trans (‹_ ∧ _ ∧ Hid (Below wc.heap.size wc _)›).2.2.out (Below.mono hbn (‹_ ∧ _ ∧ Hid (Below wc.heap.size wc _)›).2.2.out.size)); clear hbn))
            rename_i hHeldX
            clear hHeldX
            have HB := hNew
            clear hNew
            go_wp2_with fail
            refine (HKY.out wn HB.out).mono ?_
            rintro e2 w28 ⟨A4, rfl, hC4, hb4⟩
            have HB28 := Go.Lib.hid (HB.out.trans (hb4.mono HB.out.size))
            have HC4 := Go.Lib.hid hC4
            have HLEN2 := Go.Lib.hid (show xsN.length ≤ 16777216 from (HJN.out.bounds HXN.out).1)
            obtain ⟨g0, hg0⟩ : ∃ g0, g0 = gk := ⟨_, rfl⟩
            have HG0 := Go.Lib.hid hg0
            clear hC4 hb4 hg0
            go_wp2_with fail
            go_loopg [154] xsN.length (fun g2 v154 wx => ∃ j : Nat, Hid (j + g2 = xsN.length) ∧ v154 = .int .i64 j ∧ Hid (Below w28.heap.size w28 wx))
            case atStart => exact ⟨0, Go.Lib.hid (by omega), rfl, Go.Lib.hid (Below.refl _ _)⟩
            case round =>
              obtain ⟨j, hj, rfl, hbx⟩ := hrel
              have HBX := Go.Lib.hid (show Below wc.heap.size wc wr from HB28.out.trans (hbx.out.mono HB28.out.size))
              by_cases hlt2 : j < xsN.length
              · have hlt2' : (j : Int) < (xsN.length : Int) := by omega
                have hj0 : (0 : Int) ≤ (j : Int) := by omega
                obtain ⟨-, b1, -, -⟩ := (HJN.out.up HBX.out).cells
                obtain ⟨ad4, rfl, y0⟩ := Kd.at_string (Kd.C_below HC4.out hbx.out) (j : Int) hj0 hlt2'
                obtain ⟨adx, rfl, z0, -⟩ := at_T45 (Kd.R_reads' (HJN.out.up HBX.out).row).2.2 (j : Int) hj0 hlt2'
                rw [same_at HXN.out j hlt2, Int.toNat_natCast] at y0
                rw [Int.toNat_natCast] at z0
                generalize (rd_T45 xsN (j : Int)).f0 = ky at *
                have hl9 : (xsN.length : Int) ≤ 16777216 := by have := HLEN2.out; omega
                have HLT2 := Go.Lib.hid hlt2
                clear hlt2
                go_wp2_with fail
                go_roundg (gk - 1)
                case measure => have := hj.out; have := HLT2.out; omega
                case rel => exact ⟨j + 1, Go.Lib.hid (by have := hj.out; have := HLT2.out; omega), by go_num, hbx⟩
              · have hd : decide ((j : Int) < (xsN.length : Int)) = false := decide_eq_false (by omega)
                have hd2 : decide (j < xsN.length) = false := decide_eq_false hlt2
                have hd3 : ¬ (j : Int) < (xsN.length : Int) := by omega
                have HLL := HLEN.out
                have HLL2 := HLT.out
                have hT9 : (T.length : Int) ≤ 4611686018427387904 := by omega
                have hi9 : (i : Int) < (T.length : Int) := by omega
                clear HLL HLL2
                go_wp2_with fail
                go_roundg (T.length - (i + 1))
                case measure => have := hi.out; have := HLT.out; have := HG0.out; omega
                case rel => exact ⟨i + 1, itsN, xsN, A3, c3, Go.Lib.hid (by have := HLT.out; omega), by go_num, HXN, Go.Lib.hid (HJN.out.up HBX.out)⟩
      · have hd : decide ((i : Int) < (T.length : Int)) = false := decide_eq_false (by omega)
        have hd2 : decide (i < T.length) = false := decide_eq_false hlt
        have hd3 : ¬ (i : Int) < (T.length : Int) := by omega
        go_wp2_with fail
        go_ret
        exact ⟨rfl, hJ.out.below⟩
end Go.Proofs.Ytijjebogbjaeiaa.St
