/- The marker's before. -/
import Derived.Test.YtchbjjefjmcakaaLh
import Derived.Test.YtchbjjefjmcakaaLf
import Derived.Test.YtchbjjefjmcakaaPLayoutBlocksx3
namespace Go.Proofs.Ytchbjjefjmcakaa.Lb
open Go.RowKit Go.Proofs.Ytchbjjefjmcakaa.PLayoutBlocks Go.Proofs.YtchbjjefjmcakaaW.PrintWords Go.Proofs.YtchbjjefjmcakaaW.PrintLast Go.Proofs.YtchbjjefjmcakaaW.PrintMore
set_option linter.unusedVariables false
set_option linter.unusedSimpArgs false
/-- A token is a certain mark. -/
def isB (t : S27) (k : Int) (s : List UInt8) : Bool := decide (t.f0 = k) && (t.f1.toList == s)
theorem is_calls (t : S27) (k : Int) (s : ByteArray) (W : World) : Calls Try.prog 10 #[tV t, .int .i64 k, .string s] W fun e w' => e = .returned (.bool (isB t k s.toList)) ∧ Below W.heap.size W w' :=
  layout_is.calls t.f0 t.f1 t.f2 t.f3 t.f4 k s _ W (by
    unfold layout_is.f isB
    by_cases h : t.f0 = k
    · rw [if_pos h, decide_eq_true h]; rfl
    · rw [if_neg h, decide_eq_false h]; rfl)
theorem s41 : (⟨#[41]⟩ : ByteArray).toList = [41] := by kernel_rfl
theorem s125 : (⟨#[125]⟩ : ByteArray).toList = [125] := by kernel_rfl
theorem s123 : (⟨#[123]⟩ : ByteArray).toList = [123] := by kernel_rfl
theorem s40 : (⟨#[40]⟩ : ByteArray).toList = [40] := by kernel_rfl
theorem s44 : (⟨#[44]⟩ : ByteArray).toList = [44] := by kernel_rfl
theorem sIn : (⟨#[105, 110]⟩ : ByteArray).toList = [105, 110] := by kernel_rfl
/-- The blocks as far as the innermost let are ended. -/
def inR (t : S27) : List Fr → List S27 → List Fr × List S27
  | [], out => ([], out)
  | c :: r, out => if isLet c then (r, out ++ [vt 7 t]) else inR t r (out ++ [vt 7 t])
/-- What before leaves (the topmost frame first). -/
def beforeR (t : S27) (x : List Fr × List S27) : List Fr × List S27 :=
  if isB t 5 [41] || isB t 5 [125] then ((shutR t x.1 x.2).1.tail, (shutR t x.1 x.2).2)
  else if isB t 5 [44] then if x.1.any isBr then shutR t x.1 x.2 else x
  else if isB t 4 [105, 110] then if (x.1.takeWhile fun c => decide (0 < c.1)).any isLet then inR t x.1 x.2 else x
  else x
theorem shutR_len (t : S27) : ∀ (r : List Fr) (o : List S27), (shutR t r o).2.length + (shutR t r o).1.length = o.length + r.length
  | [], o => rfl
  | c :: r, o => by
    unfold shutR
    split
    · rw [shutR_len t r, List.length_append, List.length_singleton, List.length_cons]; omega
    · rfl
theorem lineR_len (t : S27) : ∀ (r : List Fr) (o : List S27), (lineR t r o).2.length + (lineR t r o).1.length = o.length + r.length
  | [], o => rfl
  | c :: r, o => by
    unfold lineR
    split
    · rw [lineR_len t r, List.length_append, List.length_singleton, List.length_cons]; omega
    · rfl
set_option maxHeartbeats 4000000 in
set_option maxRecDepth 100000 in
theorem before_calls {p : Pm} {g : Nat} (hm : Mkr p g) (t : S27) {st : List Fr} {out : List S27} {W : World} (h : TwoE p st out W) (hl : out.length + st.length < 1000000) :
    Calls Try.prog 14 #[.pointer (some ⟨g, 0, none⟩), tV t] W fun e w' => e = .returned (.tuple #[]) ∧ TwoR p (beforeR t (st.reverse, out)) w' := by
  have HM := Go.Lib.hid hm
  have F1 := field1
  have H0 := Go.Lib.hid h
  have HI := Go.Lib.hid (In.start (t := t) h)
  have HL := Go.Lib.hid hl
  have HX := Go.Lib.hid (show beforeR t (st.reverse, out) = _ from by unfold beforeR; exact rfl)
  have C41 := Go.Lib.hid (fun w' => s41 ▸ is_calls t 5 ⟨#[41]⟩ w')
  have C125 := Go.Lib.hid (fun w' => s125 ▸ is_calls t 5 ⟨#[125]⟩ w')
  have C44 := Go.Lib.hid (fun w' => s44 ▸ is_calls t 5 ⟨#[44]⟩ w')
  have CIn := Go.Lib.hid (fun w' => sIn ▸ is_calls t 4 ⟨#[105, 110]⟩ w')
  generalize isB t 5 [41] = q1 at HX C41
  generalize isB t 5 [125] = q2 at HX C125
  generalize isB t 5 [44] = q3 at HX C44
  generalize isB t 4 [105, 110] = q4 at HX CIn
  have ⟨b0, b1, b2, b3, b4⟩ := HI.out.box
  clear h hl hm
  go_enter Try.func14, Try.ntmps14
  go_wp2_with fail
  refine (C41.out _).mono ?_
  rintro e w1 ⟨rfl, hb1⟩
  have hI1 := Go.Lib.hid (HI.out.up hb1)
  clear hb1 b0 b1 b2 b3 b4
  have ⟨b0, b1, b2, b3, b4⟩ := hI1.out.box
  cases q1
  case true =>
    have HS := Go.Lib.hid (shut_calls HM.out.more t hI1.out HL.out)
    go_wp2_with fail
    refine HS.out.mono ?_
    rintro e v1 ⟨rfl, hJ⟩
    clear HS b0 b1 b2 b3 b4
    have HLs := Go.Lib.hid (shutR_len t st.reverse out)
    generalize shutR t st.reverse out = z at *
    obtain ⟨zs, zo⟩ := z
    have HJ : Hid (In p W t zs.reverse zo v1) := Go.Lib.hid hJ
    clear hJ
    have HZ : Hid (zo.length + zs.length < 1000000) := Go.Lib.hid (by have h1 := HLs.out; have h2 := HL.out; rw [List.length_reverse] at h1; simp only at h1; omega)
    cases zs with
    | nil =>
      obtain ⟨As, cs, Ao, co, hJ2⟩ := HJ.out
      have c0 : v1.cell? ⟨g, 0, none⟩ = some (.slice As 0 cs) := by have h_ := hJ2.cS; rw [HM.out.more.hs] at h_; exact h_
      clear hJ2
      go_wp2_with fail
      refine bodyPost_end (results_none rfl _ _ _) rfl ?_
      exact ⟨rfl, by rw [HX.out]; exact HJ.out.done H0.out⟩
    | cons y r =>
      have HJ2 : Hid (In p W t (r.reverse ++ [y]) zo v1) := Go.Lib.hid (by have := HJ.out; rw [List.reverse_cons] at this; exact this)
      obtain ⟨As, cs, Ao, co, hJ2⟩ := HJ2.out
      obtain ⟨m, hm0⟩ : ∃ m, m = (r.reverse ++ [y]).length := ⟨_, rfl⟩
      have c0 : v1.cell? ⟨g, 0, none⟩ = some (.slice As m cs) := by have h_ := hJ2.cS; rw [HM.out.more.hs, ← hm0] at h_; exact h_
      have hm1 : decide ((m : Int) > 0) = true := decide_eq_true (by rw [hm0]; simp)
      have hm2 : decide ((0 : Int) < (m : Int)) = true := hm1
      have hm3 : 0 < m := by rw [hm0]; simp
      have HP := Go.Lib.hid (popE HM.out.more HJ2.out (by have h1 := HZ.out; simp at h1 ⊢; omega))
      clear hJ2 hm0
      go_wp2_with fail
      refine HP.out.mono ?_
      rintro e v2 ⟨rfl, hJ3⟩
      have HJ3 : Hid (In p W t r.reverse zo v2) := Go.Lib.hid hJ3
      clear hJ3 HP
      go_wp2_with fail
      refine bodyPost_end (results_none rfl _ _ _) rfl ?_
      exact ⟨rfl, by rw [HX.out]; exact HJ3.out.done H0.out⟩
  case false =>
    go_wp2_with fail
    refine (C125.out _).mono ?_
    rintro e w2 ⟨rfl, hb2⟩
    have hI2 := Go.Lib.hid (hI1.out.up hb2)
    clear hb2 b0 b1 b2 b3 b4
    have ⟨b0, b1, b2, b3, b4⟩ := hI2.out.box
    cases q2
    case true =>
      have HS := Go.Lib.hid (shut_calls HM.out.more t hI2.out HL.out)
      go_wp2_with fail
      refine HS.out.mono ?_
      rintro e v1 ⟨rfl, hJ⟩
      clear HS b0 b1 b2 b3 b4
      have HLs := Go.Lib.hid (shutR_len t st.reverse out)
      generalize shutR t st.reverse out = z at *
      obtain ⟨zs, zo⟩ := z
      have HJ : Hid (In p W t zs.reverse zo v1) := Go.Lib.hid hJ
      clear hJ
      have HZ : Hid (zo.length + zs.length < 1000000) := Go.Lib.hid (by have h1 := HLs.out; have h2 := HL.out; rw [List.length_reverse] at h1; simp only at h1; omega)
      cases zs with
      | nil =>
        obtain ⟨As, cs, Ao, co, hJ2⟩ := HJ.out
        have c0 : v1.cell? ⟨g, 0, none⟩ = some (.slice As 0 cs) := by have h_ := hJ2.cS; rw [HM.out.more.hs] at h_; exact h_
        clear hJ2
        go_wp2_with fail
        refine bodyPost_end (results_none rfl _ _ _) rfl ?_
        exact ⟨rfl, by rw [HX.out]; exact HJ.out.done H0.out⟩
      | cons y r =>
        have HJ2 : Hid (In p W t (r.reverse ++ [y]) zo v1) := Go.Lib.hid (by have := HJ.out; rw [List.reverse_cons] at this; exact this)
        obtain ⟨As, cs, Ao, co, hJ2⟩ := HJ2.out
        obtain ⟨m, hm0⟩ : ∃ m, m = (r.reverse ++ [y]).length := ⟨_, rfl⟩
        have c0 : v1.cell? ⟨g, 0, none⟩ = some (.slice As m cs) := by have h_ := hJ2.cS; rw [HM.out.more.hs, ← hm0] at h_; exact h_
        have hm1 : decide ((m : Int) > 0) = true := decide_eq_true (by rw [hm0]; simp)
        have hm2 : decide ((0 : Int) < (m : Int)) = true := hm1
        have hm3 : 0 < m := by rw [hm0]; simp
        have HP := Go.Lib.hid (popE HM.out.more HJ2.out (by have h1 := HZ.out; simp at h1 ⊢; omega))
        clear hJ2 hm0
        go_wp2_with fail
        refine HP.out.mono ?_
        rintro e v2 ⟨rfl, hJ3⟩
        have HJ3 : Hid (In p W t r.reverse zo v2) := Go.Lib.hid hJ3
        clear hJ3 HP
        go_wp2_with fail
        refine bodyPost_end (results_none rfl _ _ _) rfl ?_
        exact ⟨rfl, by rw [HX.out]; exact HJ3.out.done H0.out⟩
    case false =>
      go_wp2_with fail
      refine (C44.out _).mono ?_
      rintro e w3 ⟨rfl, hb3⟩
      have hI3 := Go.Lib.hid (hI2.out.up hb3)
      clear hb3 b0 b1 b2 b3 b4
      have ⟨b0, b1, b2, b3, b4⟩ := hI3.out.box
      cases q3
      case true =>
        obtain ⟨As, cs, Ao, co, hT⟩ := hI3.out
        have c0 : w3.cell? ⟨g, 0, none⟩ = some (.slice As st.length cs) := by have h_ := hT.cS; rw [HM.out.more.hs] at h_; exact h_
        have HK := Go.Lib.hid (contains26 st As cs w3 (hT.rd (by have := HL.out; omega)))
        have HA := Go.Lib.hid (show st.reverse.any isBr = st.any isBr from List.any_reverse)
        clear hT
        generalize hv : st.any isBr = v at HK HA
        clear hv
        go_wp2_with fail
        refine HK.out.mono ?_
        rintro e w4 ⟨rfl, hb4⟩
        have hI4 := Go.Lib.hid (hI3.out.up hb4)
        clear hb4 b0 b1 b2 b3 b4 c0 HK
        have ⟨b0, b1, b2, b3, b4⟩ := hI4.out.box
        cases v
        case true =>
          have HS := Go.Lib.hid (shut_calls HM.out.more t hI4.out HL.out)
          go_wp2_with fail
          refine HS.out.mono ?_
          rintro e v1 ⟨rfl, hJ⟩
          clear HS b0 b1 b2 b3 b4
          have HJ : Hid (In p W t (shutR t st.reverse out).1.reverse (shutR t st.reverse out).2 v1) := Go.Lib.hid hJ
          clear hJ
          go_wp2_with fail
          refine bodyPost_end (results_none rfl _ _ _) rfl ?_
          exact ⟨rfl, by rw [HX.out, HA.out]; exact HJ.out.done H0.out⟩
        case false =>
          go_wp2_with fail
          refine bodyPost_end (results_none rfl _ _ _) rfl ?_
          exact ⟨rfl, by rw [HX.out, HA.out]; show TwoE p st.reverse.reverse out _; rw [List.reverse_reverse]; exact hI4.out.done H0.out⟩
      case false =>
        go_wp2_with fail
        refine (CIn.out _).mono ?_
        rintro e w4 ⟨rfl, hb4⟩
        have hI4 := Go.Lib.hid (hI3.out.up hb4)
        clear hb4 b0 b1 b2 b3 b4
        have ⟨b0, b1, b2, b3, b4⟩ := hI4.out.box
        cases q4
        case false =>
          go_wp2_with fail
          refine bodyPost_end (results_none rfl _ _ _) rfl ?_
          exact ⟨rfl, by rw [HX.out]; show TwoE p st.reverse.reverse out _; rw [List.reverse_reverse]; exact hI4.out.done H0.out⟩
        case true =>
          have HN := Go.Lib.hid (inner_calls HM.out.more hI4.out (by have := HL.out; omega))
          go_wp2_with fail
          refine HN.out.mono ?_
          rintro e w5 ⟨⟨Ai, ci, ki, rfl, hrd, hbk⟩, hb5⟩
          have hI5 := Go.Lib.hid (hI4.out.up hb5)
          have HK := Go.Lib.hid (contains28 (st.drop ki) Ai ci w5 hrd)
          have HA := Go.Lib.hid (show (st.reverse.takeWhile fun c => decide (0 < c.1)).any isLet = (st.drop ki).any isLet from (any_blk hbk isLet).symm)
          clear hb5 hrd hbk HN b0 b1 b2 b3 b4
          generalize hv : (st.drop ki).any isLet = v at HK HA
          have HV := Go.Lib.hid hv
          clear hv
          generalize (st.drop ki).length = nd at *
          go_wp2_with fail
          refine HK.out.mono ?_
          rintro e w6 ⟨rfl, hb6⟩
          have hI6 := Go.Lib.hid (hI5.out.up hb6)
          clear hb6 HK
          cases v
          case false =>
            go_wp2_with fail
            go_loopg [5] 1 (fun k v5 wr => v5 = .bool true ∧ Hid (In p W t st out wr))
            case atStart => exact ⟨rfl, hI6⟩
            case round =>
              obtain ⟨rfl, hJ⟩ := hrel
              go_wp2_with fail
              refine bodyPost_end (results_none rfl _ _ _) rfl ?_
              exact ⟨rfl, by rw [HX.out, HA.out]; show TwoE p st.reverse.reverse out _; rw [List.reverse_reverse]; exact hJ.out.done H0.out⟩
          case true =>
            go_wp2_with fail
            have HV2 := Go.Lib.hid (show st.reverse.any isLet = true from by
              rw [List.any_reverse]
              obtain ⟨x, hx, hq⟩ := List.any_eq_true.1 HV.out
              exact List.any_eq_true.2 ⟨x, List.mem_of_mem_drop hx, hq⟩)
            have HX2 := Go.Lib.hid (show beforeR t (st.reverse, out) = inR t st.reverse out from by rw [HX.out, HA.out]; simp)
            clear HV HX HA
            go_loopg [5] st.length (fun k v5 wr => ∃ (s : List Fr) (o : List S27) (en : Bool), v5 = .bool en ∧ Hid (s.length = k) ∧ Hid (In p W t s o wr) ∧ Hid (en = false → s.reverse.any isLet = true ∧ inR t s.reverse o = inR t st.reverse out) ∧ Hid (en = true → (s.reverse, o) = inR t st.reverse out) ∧ Hid (o.length + s.length < 1000000))
            case atStart => exact ⟨st, out, false, rfl, Go.Lib.hid rfl, hI6, Go.Lib.hid (fun _ => ⟨HV2.out, rfl⟩), Go.Lib.hid (fun h => by cases h), HL⟩
            case round =>
              obtain ⟨s, o, en, rfl, hk, hJ, hno, hye, hL⟩ := hrel
              cases en with
              | true =>
                have hf := Go.Lib.hid (hye.out rfl)
                clear hno hye
                go_wp2_with fail
                refine bodyPost_end (results_none rfl _ _ _) rfl ?_
                exact ⟨rfl, by rw [HX2.out, ← hf.out]; show TwoE p s.reverse.reverse o _; rw [List.reverse_reverse]; exact hJ.out.done H0.out⟩
              | false =>
                obtain ⟨hany, hin⟩ := hno.out rfl
                obtain ⟨l, y, rfl⟩ : ∃ l y, s = l ++ [y] := by
                  rcases snoc_cases s with h | h
                  · rw [h] at hany; cases hany
                  · exact h
                have HT := Go.Lib.hid (topE HM.out.more hJ.out (by have := hL.out; omega))
                rw [tp_snoc] at HT
                rw [List.reverse_append] at hany hin
                have HA2 := Go.Lib.hid (show (isLet y || l.reverse.any isLet) = true from hany)
                have HN2 := Go.Lib.hid (show (if isLet y then (l.reverse, o ++ [vt 7 t]) else inR t l.reverse (o ++ [vt 7 t])) = inR t st.reverse out from hin)
                have HLY := Go.Lib.hid (show (y.2.toList == [108, 101, 116]) = isLet y from rfl)
                clear hany hin hno hye
                go_wp2_with fail
                refine HT.out.mono ?_
                rintro e w7 ⟨rfl, hb7⟩
                have hI7 := Go.Lib.hid (hJ.out.up hb7)
                have ⟨b0, b1, b2, b3, b4⟩ := hI7.out.box
                have HP := Go.Lib.hid (putE HM.out.more 7 t hI7.out (by have := hL.out; omega))
                clear hb7 HT hJ
                go_wp2_with fail
                refine HP.out.mono ?_
                rintro e w8 ⟨rfl, hI8⟩
                have HQ := Go.Lib.hid (popE HM.out.more hI8 (by have := hL.out; omega))
                clear HP hI7 hI8 b0 b1 b2 b3 b4
                go_wp2_with fail
                refine HQ.out.mono ?_
                rintro e w9 ⟨rfl, hI9⟩
                have HI9 := Go.Lib.hid hI9
                clear HQ hI9
                rw [HLY.out]
                go_wp2_with fail
                go_roundg l.length
                case measure => have := hk.out; rw [List.length_append] at this; simp at this; omega
                case rel =>
                  refine ⟨l, o ++ [vt 7 t], isLet y, rfl, Go.Lib.hid rfl, HI9, Go.Lib.hid (fun h => ?_), Go.Lib.hid (fun h => ?_), Go.Lib.hid (by have := hL.out; simp at this ⊢; omega)⟩
                  · have h1 := HA2.out
                    have h2 := HN2.out
                    rw [h] at h1 h2
                    exact ⟨h1, h2⟩
                  · have h2 := HN2.out
                    rw [h] at h2
                    exact h2
end Go.Proofs.Ytchbjjefjmcakaa.Lb
