/- The tests over frames. -/
import Derived.Test.YtchbjjefjmcakaaLe
namespace Go.Proofs.Ytchbjjefjmcakaa.Lb
open Go.RowKit Go.Proofs.Ytchbjjefjmcakaa.PLayoutBlocks Go.Proofs.YtchbjjefjmcakaaW.PrintWords Go.Proofs.YtchbjjefjmcakaaW.PrintLast Go.Proofs.YtchbjjefjmcakaaW.PrintMore
set_option linter.unusedVariables false
set_option linter.unusedSimpArgs false
abbrev fV (x : Fr) : Value := .agg #[.int .i64 x.1, .string x.2]
def isLet (x : Fr) : Bool := x.2.toList == [108, 101, 116]
def isBr (x : Fr) : Bool := x.1 == 0
set_option maxRecDepth 100000 in
theorem cl26 (x : Fr) (W : World) : Calls Try.prog 26 #[fV x] W fun e w' => e = .returned (.bool (isBr x)) ∧ Below W.heap.size W w' := by
  go_enter Try.func26, Try.ntmps26
  go_wp2_with fail
  go_ret
  exact ⟨rfl, below_alloc (Below.refl _ _) _⟩
set_option maxRecDepth 100000 in
theorem cl28 (x : Fr) (W : World) : Calls Try.prog 28 #[fV x] W fun e w' => e = .returned (.bool (isLet x)) ∧ Below W.heap.size W w' := by
  go_enter Try.func28, Try.ntmps28
  go_wp2_with fail
  go_ret
  exact ⟨rfl, below_alloc (Below.refl _ _) _⟩
def f41 (x : Fr) : S41 := ⟨x.1, x.2⟩
/-- Frames that can be read. -/
def RdF (W : World) (A : Option Addr) (l : List Fr) : Prop := k41.C W A l.length (l.map f41)
theorem RdF.up {W W' : World} {A : Option Addr} {l : List Fr} (h : RdF W A l) (hb : Below W.heap.size W W') : RdF W' A l := Kd.C_below h hb
theorem RdF.at_ {W : World} {A : Option Addr} {l : List Fr} (h : RdF W A l) {i : Nat} {y : Fr} (hi : l[i]? = some y) : ∃ ad, A = some ad ∧ W.cell? (ad.add (i * 2)) = some (.int .i64 y.1) ∧ W.cell? ⟨(ad.add (i * 2)).block, (ad.add (i * 2)).off + 1, none⟩ = some (.string y.2) := by
  have hl := (List.getElem?_eq_some_iff.1 hi).1
  obtain ⟨ad, e, h0, h1⟩ := at_T41 h (i : Int) (by omega) (by omega)
  have hr : rd_T41 (l.map f41) (i : Int) = f41 y := by
    unfold rd_T41
    rw [Int.toNat_natCast, List.getD_eq_getElem?_getD, List.getElem?_map, hi]; rfl
  rw [hr, Int.toNat_natCast] at h0 h1
  exact ⟨ad, e, h0, h1⟩
theorem RdF.len {W : World} {A : Option Addr} {l : List Fr} (h : RdF W A l) : l.length ≤ 9223372036854775807 := h.2.1
/-- A row of one's own can be read. -/
theorem Two.rd {p : Pm} {As Ao : Option Addr} {cs co : Nat} {st : List Fr} {out : List S27} {W : World} (h : Two p As cs st Ao co out W) (hl : st.length < 1000000) : RdF W As st := by
  refine ⟨by simp, by omega, fun hpos => ?_⟩
  rcases h.rS.2 with ⟨_, h0⟩ | ⟨g, cap, cur, e0, _⟩
  · omega
  · injection e0 with e1 _ e3
    subst e1 e3
    refine ⟨_, rfl, fun j q hj => ?_⟩
    rw [List.getElem?_map] at hj
    obtain ⟨y, hy, rfl⟩ := Option.map_eq_some_iff.1 hj
    obtain ⟨_, e, h0, h1⟩ := h.atS hy
    cases e
    refine ⟨[.int .i64 y.1, .string y.2], rfl, k41_mk W (f41 y), fun i u hu => ?_⟩
    rw [add_plain]
    match i, hu with
    | 0, hu => simp at hu; subst hu; exact h0
    | 1, hu => simp at hu; subst hu; exact h1
/-- What IndexFunc answers. -/
def IdxP (l : List Fr) (q : Fr → Bool) (e : Ending) : Prop := ∃ r : Int, e = .returned (.int .i64 r) ∧ decide (0 ≤ r) = l.any q
theorem any_at {l : List Fr} {q : Fr → Bool} {i : Nat} {y : Fr} (h : l[i]? = some y) : (l.drop i).any q = (q y || (l.drop (i + 1)).any q) := by
  obtain ⟨hl, rfl⟩ := List.getElem?_eq_some_iff.1 h
  rw [List.drop_eq_getElem_cons hl, List.any_cons]
set_option maxHeartbeats 4000000 in
set_option maxRecDepth 100000 in
theorem index26 (l : List Fr) (A : Option Addr) (c : Nat) (W : World) (hA : RdF W A l) :
    Calls Try.prog 30 #[.slice A l.length c, .func (.func 26) #[] #[]] W fun e w' => IdxP l isBr e ∧ Below W.heap.size W w' := by
  have HA := Go.Lib.hid hA
  have hl : (l.length : Int) ≤ 9223372036854775807 := by have := hA.len; omega
  clear hA
  go_enter Try.func30, Try.ntmps30
  go_wp2_with fail
  go_loopg [8] l.length (fun k v8 wr => ∃ i : Nat, Hid (i + k = l.length) ∧ v8 = .int .i64 i ∧ Hid (l.any isBr = (l.drop i).any isBr) ∧ Hid (Below W.heap.size W wr))
  case atStart => exact ⟨0, Go.Lib.hid (by omega), rfl, Go.Lib.hid (by simp), Go.Lib.hid (Below.refl _ _)⟩
  case round =>
    obtain ⟨i, hi, rfl, ho, hb⟩ := hrel
    by_cases hlt : i < l.length
    · have hlt' : (i : Int) < (l.length : Int) := by omega
      obtain ⟨y, hy⟩ : ∃ y, l[i]? = some y := ⟨_, List.getElem?_eq_getElem hlt⟩
      obtain ⟨ad, rfl, x0, x1⟩ := (HA.out.up hb.out).at_ hy
      have hd := Go.Lib.hid (show l.any isBr = (isBr y || (l.drop (i + 1)).any isBr) by rw [ho.out, any_at hy])
      have hc := Go.Lib.hid (cl26 y wr)
      generalize hB : isBr y = v at hd hc
      have HLT := Go.Lib.hid hlt
      clear hlt hB hy
      cases v
      · have hr := Go.Lib.hid (show l.any isBr = (l.drop (i + 1)).any isBr by rw [hd.out]; rfl)
        go_wp2_with fail
        refine hc.out.mono ?_
        rintro e w1 ⟨rfl, hb1⟩
        have hb2 := Go.Lib.hid (hb.out.trans (hb1.mono hb.out.size))
        clear hb1
        go_wp2_with fail
        go_roundg (gk - 1)
        case measure => have := hi.out; have := HLT.out; omega
        case rel => exact ⟨i + 1, Go.Lib.hid (by have := hi.out; have := HLT.out; omega), by go_num, hr, hb2⟩
      · have hr := Go.Lib.hid (show l.any isBr = true by rw [hd.out]; rfl)
        go_wp2_with fail
        refine hc.out.mono ?_
        rintro e w1 ⟨rfl, hb1⟩
        have hb2 := Go.Lib.hid (hb.out.trans (hb1.mono hb.out.size))
        clear hb1
        go_wp2_with fail
        go_ret
        exact ⟨⟨i, rfl, by rw [hr.out]; exact decide_eq_true (by omega)⟩, hb2.out⟩
    · have hr := Go.Lib.hid (show l.any isBr = false by rw [ho.out, List.drop_eq_nil_of_le (by omega)]; rfl)
      have hlt' : ¬ (i : Int) < (l.length : Int) := by omega
      clear hlt
      go_wp2_with fail
      go_ret
      exact ⟨⟨-1, rfl, by rw [hr.out]; rfl⟩, hb.out⟩
set_option maxRecDepth 100000 in
theorem contains26 (l : List Fr) (A : Option Addr) (c : Nat) (W : World) (hA : RdF W A l) :
    Calls Try.prog 25 #[.slice A l.length c, .func (.func 26) #[] #[]] W fun e w' => e = .returned (.bool (l.any isBr)) ∧ Below W.heap.size W w' := by
  have HI := Go.Lib.hid (index26 l A c W hA)
  clear hA
  go_enter Try.func25, Try.ntmps25
  go_wp2_with fail
  refine HI.out.mono ?_
  rintro e w1 ⟨⟨r, rfl, hr⟩, hb1⟩
  have HB := Go.Lib.hid hb1
  have HR := Go.Lib.hid hr
  clear hb1 hr
  by_cases h : 0 ≤ r
  · have h0 : decide (0 ≤ r) = true := decide_eq_true h
    have H := Go.Lib.hid h
    clear h
    go_wp2_with fail
    go_ret
    exact ⟨by rw [← HR.out, decide_eq_true H.out]; rfl, HB.out⟩
  · have h0 : decide (0 ≤ r) = false := decide_eq_false h
    have H := Go.Lib.hid h
    clear h
    go_wp2_with fail
    go_ret
    exact ⟨by rw [← HR.out, decide_eq_false (by have := H.out; omega)]; rfl, HB.out⟩
set_option maxHeartbeats 4000000 in
set_option maxRecDepth 100000 in
theorem index28 (l : List Fr) (A : Option Addr) (c : Nat) (W : World) (hA : RdF W A l) :
    Calls Try.prog 30 #[.slice A l.length c, .func (.func 28) #[] #[]] W fun e w' => IdxP l isLet e ∧ Below W.heap.size W w' := by
  have HA := Go.Lib.hid hA
  have hl : (l.length : Int) ≤ 9223372036854775807 := by have := hA.len; omega
  clear hA
  go_enter Try.func30, Try.ntmps30
  go_wp2_with fail
  go_loopg [8] l.length (fun k v8 wr => ∃ i : Nat, Hid (i + k = l.length) ∧ v8 = .int .i64 i ∧ Hid (l.any isLet = (l.drop i).any isLet) ∧ Hid (Below W.heap.size W wr))
  case atStart => exact ⟨0, Go.Lib.hid (by omega), rfl, Go.Lib.hid (by simp), Go.Lib.hid (Below.refl _ _)⟩
  case round =>
    obtain ⟨i, hi, rfl, ho, hb⟩ := hrel
    by_cases hlt : i < l.length
    · have hlt' : (i : Int) < (l.length : Int) := by omega
      obtain ⟨y, hy⟩ : ∃ y, l[i]? = some y := ⟨_, List.getElem?_eq_getElem hlt⟩
      obtain ⟨ad, rfl, x0, x1⟩ := (HA.out.up hb.out).at_ hy
      have hd := Go.Lib.hid (show l.any isLet = (isLet y || (l.drop (i + 1)).any isLet) by rw [ho.out, any_at hy])
      have hc := Go.Lib.hid (cl28 y wr)
      generalize hB : isLet y = v at hd hc
      have HLT := Go.Lib.hid hlt
      clear hlt hB hy
      cases v
      · have hr := Go.Lib.hid (show l.any isLet = (l.drop (i + 1)).any isLet by rw [hd.out]; rfl)
        go_wp2_with fail
        refine hc.out.mono ?_
        rintro e w1 ⟨rfl, hb1⟩
        have hb2 := Go.Lib.hid (hb.out.trans (hb1.mono hb.out.size))
        clear hb1
        go_wp2_with fail
        go_roundg (gk - 1)
        case measure => have := hi.out; have := HLT.out; omega
        case rel => exact ⟨i + 1, Go.Lib.hid (by have := hi.out; have := HLT.out; omega), by go_num, hr, hb2⟩
      · have hr := Go.Lib.hid (show l.any isLet = true by rw [hd.out]; rfl)
        go_wp2_with fail
        refine hc.out.mono ?_
        rintro e w1 ⟨rfl, hb1⟩
        have hb2 := Go.Lib.hid (hb.out.trans (hb1.mono hb.out.size))
        clear hb1
        go_wp2_with fail
        go_ret
        exact ⟨⟨i, rfl, by rw [hr.out]; exact decide_eq_true (by omega)⟩, hb2.out⟩
    · have hr := Go.Lib.hid (show l.any isLet = false by rw [ho.out, List.drop_eq_nil_of_le (by omega)]; rfl)
      have hlt' : ¬ (i : Int) < (l.length : Int) := by omega
      clear hlt
      go_wp2_with fail
      go_ret
      exact ⟨⟨-1, rfl, by rw [hr.out]; rfl⟩, hb.out⟩
set_option maxRecDepth 100000 in
theorem contains28 (l : List Fr) (A : Option Addr) (c : Nat) (W : World) (hA : RdF W A l) :
    Calls Try.prog 25 #[.slice A l.length c, .func (.func 28) #[] #[]] W fun e w' => e = .returned (.bool (l.any isLet)) ∧ Below W.heap.size W w' := by
  have HI := Go.Lib.hid (index28 l A c W hA)
  clear hA
  go_enter Try.func25, Try.ntmps25
  go_wp2_with fail
  refine HI.out.mono ?_
  rintro e w1 ⟨⟨r, rfl, hr⟩, hb1⟩
  have HB := Go.Lib.hid hb1
  have HR := Go.Lib.hid hr
  clear hb1 hr
  by_cases h : 0 ≤ r
  · have h0 : decide (0 ≤ r) = true := decide_eq_true h
    have H := Go.Lib.hid h
    clear h
    go_wp2_with fail
    go_ret
    exact ⟨by rw [← HR.out, decide_eq_true H.out]; rfl, HB.out⟩
  · have h0 : decide (0 ≤ r) = false := decide_eq_false h
    have H := Go.Lib.hid h
    clear h
    go_wp2_with fail
    go_ret
    exact ⟨by rw [← HR.out, decide_eq_false (by have := H.out; omega)]; rfl, HB.out⟩
end Go.Proofs.Ytchbjjefjmcakaa.Lb
