import Derived.Test.YtdobkkoonamocaaMb
namespace Go.Proofs.Ytdobkkoonamocaa.Mo
open Go.RowKit Go.Proofs.Ytdobkkoonamocaa.PModulesOrdered Go.Proofs.YtdobkkoonamocaaW.PrintWords Go.Proofs.YtdobkkoonamocaaW.PrintLast Go.Proofs.YtdobkkoonamocaaW.PrintMore
set_option linter.unusedVariables false
set_option linter.unusedSimpArgs false

/-- What IndexFunc answers. -/
def IdxPost (xs : List ByteArray) (p : ByteArray → Bool) (e : Ending) : Prop := ∃ r : Int, e = .returned (.int .i64 r) ∧ decide (0 ≤ r) = xs.any p
/-- A test that a function value with one captured variable computes. -/
def Tests (g : Nat) (p : ByteArray → Bool) (w : World) : Prop := ∀ W s, Drawn0 w W → Calls Try.prog 19 #[.string s, .pointer (some ⟨g, 0, none⟩)] W fun e w' => e = .returned (.bool (p s)) ∧ Drawn0 W w'
theorem drawn_trans {w w1 w2 : World} (h : Drawn0 w w1) (k : Drawn0 w1 w2) : Drawn0 w w2 := by
  obtain ⟨n, rfl⟩ := h.out
  obtain ⟨m, rfl⟩ := k.out
  exact ⟨⟨n + m, by rw [World.drewN_drewN]⟩⟩
theorem drawn_below {w w1 : World} (h : Drawn0 w w1) : Below w.heap.size w w1 := h.below
theorem any_drop {l : List ByteArray} {i : Nat} (h : i < l.length) (p : ByteArray → Bool) : (l.drop i).any p = (p (sx l (i : Int)) || (l.drop (i + 1)).any p) := by
  rw [drop_sx h]; rfl

set_option maxHeartbeats 4000000 in
set_option maxRecDepth 100000 in
theorem index_calls (xs : List ByteArray) (p : ByteArray → Bool) (g : Nat) (w : World) (A : Option Addr) (c : Nat) (hx : xs.length < LIM) (hA : Kd.C Kd.string w A xs.length xs) (hp : Tests g p w) :
    Calls Try.prog 31 #[.slice A xs.length c, .func (.func 19) #[] #[.pointer (some ⟨g, 0, none⟩)]] w fun e w' => IdxPost xs p e ∧ Drawn0 w w' := by
  have HA := Go.Lib.hid hA
  have HP := Go.Lib.hid hp
  have hl : (xs.length : Int) ≤ 9223372036854775807 := by unfold LIM at hx; omega
  clear hA hp hx
  go_enter Try.func31, Try.ntmps31
  go_wp2_with fail
  go_loopg [8] xs.length (fun k v8 wr => ∃ i : Nat, Hid (i + k = xs.length) ∧ v8 = .int .i64 i ∧ Hid (xs.any p = (xs.drop i).any p) ∧ Hid (Drawn0 w wr))
  case atStart => exact ⟨0, Go.Lib.hid (by omega), rfl, Go.Lib.hid (by simp), Go.Lib.hid (Drawn0.refl _)⟩
  case round =>
    obtain ⟨i, hi, rfl, ho, hb⟩ := hrel
    by_cases hlt : i < xs.length
    · have hlt' : (i : Int) < (xs.length : Int) := by omega
      obtain ⟨ad, rfl, x0⟩ := at_S (Kd.C_below HA.out hb.out.below) hlt
      have hd := Go.Lib.hid (show xs.any p = (p (sx xs (i : Int)) || (xs.drop (i + 1)).any p) by rw [ho.out, any_drop hlt])
      have hc := Go.Lib.hid (HP.out wr (sx xs (i : Int)) hb.out)
      generalize sx xs (i : Int) = s at *
      generalize hB : p s = v at hd hc
      have HLT := Go.Lib.hid hlt
      clear hlt hB
      cases v
      · have hr := Go.Lib.hid (show xs.any p = (xs.drop (i + 1)).any p by rw [hd.out]; rfl)
        go_wp2_with fail
        refine hc.out.mono ?_
        rintro e w1 ⟨rfl, hb1⟩
        have hb2 := Go.Lib.hid (drawn_trans hb.out hb1)
        clear hb1
        go_wp2_with fail
        go_roundg (gk - 1)
        case measure => have := hi.out; have := HLT.out; omega
        case rel => exact ⟨i + 1, Go.Lib.hid (by have := hi.out; have := HLT.out; omega), by go_num, hr, hb2⟩
      · have hr := Go.Lib.hid (show xs.any p = true by rw [hd.out]; rfl)
        go_wp2_with fail
        refine hc.out.mono ?_
        rintro e w1 ⟨rfl, hb1⟩
        have hb2 := Go.Lib.hid (drawn_trans hb.out hb1)
        clear hb1
        go_wp2_with fail
        go_ret
        exact ⟨⟨i, rfl, by rw [hr.out]; exact decide_eq_true (by omega)⟩, hb2.out⟩
    · have hr := Go.Lib.hid (show xs.any p = false by rw [ho.out, List.drop_eq_nil_of_le (by omega)]; rfl)
      have hlt' : ¬ (i : Int) < (xs.length : Int) := by omega
      clear hlt
      go_wp2_with fail
      go_ret
      exact ⟨⟨-1, rfl, by rw [hr.out]; rfl⟩, hb.out⟩

set_option maxRecDepth 100000 in
theorem containsFunc_calls (xs : List ByteArray) (p : ByteArray → Bool) (g : Nat) (w : World) (A : Option Addr) (c : Nat) (hx : xs.length < LIM) (hA : Kd.C Kd.string w A xs.length xs) (hp : Tests g p w) :
    Calls Try.prog 18 #[.slice A xs.length c, .func (.func 19) #[] #[.pointer (some ⟨g, 0, none⟩)]] w fun e w' => e = .returned (.bool (xs.any p)) ∧ Drawn0 w w' := by
  have HI := Go.Lib.hid (index_calls xs p g w A c hx hA hp)
  clear hA hx hp
  go_enter Try.func18, Try.ntmps18
  go_wp2_with fail
  refine HI.out.mono ?_
  rintro e w1 ⟨⟨r, rfl, hr⟩, hb1⟩
  have HB := Go.Lib.hid hb1
  have HR := Go.Lib.hid hr
  clear hb1 hr
  by_cases h : 0 ≤ r
  · have h0 : decide (0 ≤ r) = true := decide_eq_true h
    have H := Go.Lib.hid h
    clear h
    go_wp2_with fail
    go_ret
    exact ⟨by rw [← HR.out, decide_eq_true H.out]; rfl, HB.out⟩
  · have h0 : decide (0 ≤ r) = false := decide_eq_false h
    have H := Go.Lib.hid h
    clear h
    go_wp2_with fail
    go_ret
    exact ⟨by rw [← HR.out, decide_eq_false (by have := H.out; omega)]; rfl, HB.out⟩

set_option maxRecDepth 100000 in
/-- Order's test: a name that is not done. -/
theorem closure19 (dn : List ByteArray) (A : Option Addr) (c g : Nat) (w : World) (hd : dn.length < LIM) (hc : dn.length ≤ c) (hg : w.cell? ⟨g, 0, none⟩ = some (.slice A dn.length c)) (hC : Kd.C Kd.string w A dn.length dn) : Tests g (fun s => !hasB dn s) w := by
  intro W s hdr
  show Calls Try.prog 19 #[.string s, .pointer (some ⟨g, 0, none⟩)] W fun e w' => e = .returned (.bool (!hasB dn s)) ∧ Drawn0 W w'
  have h0 : W.cell? ⟨g, 0, none⟩ = some (.slice A dn.length c) := pw_cell_below hdr.below hg
  have HC := Go.Lib.hid (contains_calls dn s A c W hd (Kd.C_below hC hdr.below) hc)
  clear hdr hg hC hd hc
  generalize hasB dn s = v at *
  go_enter Try.func19, Try.ntmps19
  go_wp2_with fail
  refine HC.out.mono ?_
  rintro e w1 ⟨rfl, hb1⟩
  have HB := Go.Lib.hid hb1
  clear hb1
  cases v
  all_goals
    go_wp2_with fail
    go_ret
    exact ⟨rfl, HB.out⟩
end Go.Proofs.Ytdobkkoonamocaa.Mo
