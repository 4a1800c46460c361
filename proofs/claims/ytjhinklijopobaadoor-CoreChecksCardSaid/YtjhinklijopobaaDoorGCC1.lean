import Derived.Test.YtjhinklijopobaaDoorGCC0
import Derived.Test.YtjhinklijopobaaDoorPCoreChecksx11
namespace Go.Proofs.YtjhinklijopobaaDoor.Co
open Go.RowKit Go.Proofs.YtjhinklijopobaaDoor.PCoreChecks Go.Proofs.YtjhinklijopobaaDoorW.PrintWords Go.Proofs.YtjhinklijopobaaDoorW.PrintLast Go.Proofs.YtjhinklijopobaaDoorW.PrintMore
set_option linter.unusedVariables false
set_option linter.unusedSimpArgs false

/-- A node binds n in its kid c. -/
def hitB (x : S28) (c n : Int) : Bool := (List.range x.f3.length).any fun k => decide (rd x.f3 (k : Nat) = c) && decide (n ∈ scopeOf x k)
/-- The node that binds n on the way up from c. -/
inductive Bd (t : List S28) (P : List Int) (n : Int) : Nat → Int → Prop
  | stop (c : Nat) : P[c]? = some (-1) → Bd t P n c (-1)
  | hit (c p : Nat) : P[c]? = some (p : Int) → hitB (rd_T28 t (p : Int)) c n = true → Bd t P n c p
  | up (c p : Nat) (r : Int) : P[c]? = some (p : Int) → hitB (rd_T28 t (p : Int)) c n = false → Bd t P n p r → Bd t P n c r
def BdP (t : List S28) (P : List Int) (n : Int) (c : Nat) (w : World) (e : Ending) (w' : World) : Prop := ∃ r, e = .returned (.int .i64 r) ∧ Bd t P n c r ∧ Below w.heap.size w w'
theorem BdP.mk {t : List S28} {P : List Int} {n : Int} {c : Nat} {w w' : World} {r : Int} (h : Bd t P n c r) (hb : Below w.heap.size w w') : BdP t P n c w (.returned (.int .i64 r)) w' := ⟨r, rfl, h, hb⟩

theorem below_dn {B : Nat} {a w : World} (h : Below B a w) (n : Nat) : Below B a (w.drewN n) := ⟨h.os, h.tape, h.output, h.size, h.block⟩
/-- What stays through the question whether a node binds. -/
def Rst (w : World) (g : Nat) (P : List Int) (w' : World) : Prop := IA w' g P ∧ Below w.heap.size w w'
def Cells (ad : Addr) (p : Nat) (x : S28) (A2 A3 A4 : Option Addr) (c2 c3 c4 : Nat) (ad1 : Addr) (a : Nat) (N : Int) (w : World) (g : Nat) (P : List Int) (w' : World) : Prop :=
  w'.cell? (ad.add (p * 5)) = some (.int .i64 x.f0) ∧ w'.cell? ⟨(ad.add (p * 5)).block, (ad.add (p * 5)).off + 1, none⟩ = some (.int .i64 x.f1) ∧ w'.cell? ⟨(ad.add (p * 5)).block, (ad.add (p * 5)).off + 2, none⟩ = some (.slice A2 x.f2.length c2) ∧ w'.cell? ⟨(ad.add (p * 5)).block, (ad.add (p * 5)).off + 3, none⟩ = some (.slice A3 x.f3.length c3) ∧ w'.cell? ⟨(ad.add (p * 5)).block, (ad.add (p * 5)).off + 4, none⟩ = some (.slice A4 x.f4.length c4) ∧
  w'.cell? ⟨(ad1.add (a * 5)).block, (ad1.add (a * 5)).off + 1, none⟩ = some (.int .i64 N) ∧ Hid (Rst w g P w')
theorem Cells.below {ad : Addr} {p : Nat} {x : S28} {A2 A3 A4 : Option Addr} {c2 c3 c4 : Nat} {ad1 : Addr} {a : Nat} {N : Int} {w : World} {g : Nat} {P : List Int} {w' w2 : World} (h : Cells ad p x A2 A3 A4 c2 c3 c4 ad1 a N w g P w') (hb : Below w'.heap.size w' w2) : Cells ad p x A2 A3 A4 c2 c3 c4 ad1 a N w g P w2 := by
  obtain ⟨h0, h1, h2, h3, h4, h5, h6⟩ := h
  exact ⟨pw_cell_below hb h0, pw_cell_below hb h1, pw_cell_below hb h2, pw_cell_below hb h3, pw_cell_below hb h4, pw_cell_below hb h5, Go.Lib.hid ⟨h6.out.1.below hb, h6.out.2.trans (hb.mono h6.out.2.size)⟩⟩

theorem Cells.drewN {ad : Addr} {p : Nat} {x : S28} {A2 A3 A4 : Option Addr} {c2 c3 c4 : Nat} {ad1 : Addr} {a : Nat} {N : Int} {w : World} {g : Nat} {P : List Int} {w' : World} (h : Cells ad p x A2 A3 A4 c2 c3 c4 ad1 a N w g P w') (n : Nat) : Cells ad p x A2 A3 A4 c2 c3 c4 ad1 a N w g P (w'.drewN n) := h.below (below_dn (Below.refl _ _) n)
theorem Cells.drew {ad : Addr} {p : Nat} {x : S28} {A2 A3 A4 : Option Addr} {c2 c3 c4 : Nat} {ad1 : Addr} {a : Nat} {N : Int} {w : World} {g : Nat} {P : List Int} {w' : World} (h : Cells ad p x A2 A3 A4 c2 c3 c4 ad1 a N w g P w') : Cells ad p x A2 A3 A4 c2 c3 c4 ad1 a N w g P w'.drew := h.below (below_drew (Below.refl _ _))
theorem scope_arm {ad : Addr} {p : Nat} {x : S28} {A2 A3 A4 : Option Addr} {c2 c3 c4 : Nat} {ad1 : Addr} {a : Nat} {N : Int} {w : World} {g : Nat} {P : List Int} {j : Nat} {w' : World} (G2 : Hid (Kd.C (Kd.int .i64) w A2 x.f2.length x.f2)) (L2 : Hid (x.f2.length ≤ c2)) (G4 : Hid (Kd.C k86 w A4 x.f4.length x.f4)) (HK : Hid ((x.f0 = 7 ∨ x.f0 = 13) → 0 < j → j - 1 < x.f4.length)) (HJ : Hid ((j : Int) ≤ 9223372036854775807))
    (h : Cells ad p x A2 A3 A4 c2 c3 c4 ad1 a N w g P w') :
    Calls Tryd.prog 81 #[.agg #[.int .i64 x.f0, .int .i64 x.f1, .slice A2 x.f2.length c2, .slice A3 x.f3.length c3, .slice A4 x.f4.length c4], .int .i64 (j : Int)] w' fun e wn => ∃ A c, e = .returned (.slice A (scopeOf x j).length c) ∧ Kd.C (Kd.int .i64) wn A (scopeOf x j).length (scopeOf x j) ∧ Cells ad p x A2 A3 A4 c2 c3 c4 ad1 a N w g P wn :=
  (scopeR_calls x j HJ.out A2 c2 A3 c3 A4 c4 w' (Kd.C_below G2.out h.2.2.2.2.2.2.out.2) L2.out (Kd.C_below G4.out h.2.2.2.2.2.2.out.2) HK.out).mono fun e wn h2 => by
    obtain ⟨A, c, rfl, _, h3, h4⟩ := h2
    exact ⟨A, c, rfl, h3, h.below h4⟩
theorem in_arm (l : List Int) (A : Option Addr) (c : Nat) (n : Int) (w : World) (hC : Kd.C (Kd.int .i64) w A l.length l) :
    Calls Tryd.prog 51 #[.slice A l.length c, .int .i64 n] w fun e w' => e = .returned (.bool (decide (n ∈ l))) ∧ w' = w := in_calls l A c n w hC

set_option maxHeartbeats 8000000 in
set_option maxRecDepth 100000 in
theorem binder_calls (t : List S28) (P : List Int) (hp : Par t P) (hn : t.length ≤ 4096) (hs : ∀ x ∈ t, (x.f0 = 7 ∨ x.f0 = 13) → x.f3.length = x.f4.length + 1) (a : Nat) (ha : a < t.length)
    (A0 : Option Addr) (c0 g : Nat) (w : World) (hr : Kd.C k28 w A0 t.length t) (hg : g < w.heap.size) (hA : IA w g P) :
    Calls Tryd.prog 50 #[.slice A0 t.length c0, .slice (some ⟨g, 0, none⟩) t.length t.length, .int .i64 (a : Int)] w (BdP t P (rd_T28 t (a : Int)).f1 a w) := by
  have HR := Go.Lib.hid hr
  have HS := Go.Lib.hid hs
  have HP := Go.Lib.hid hp
  have ht9 : (t.length : Int) ≤ 4096 := by omega
  have HGA := Go.Lib.hid hA
  have HGL := Go.Lib.hid hg
  have HAT := Go.Lib.hid ha
  have HB := Go.Lib.hid (Below.refl w.heap.size w)
  have hal : (a : Int) < (t.length : Int) := by omega
  obtain ⟨N, hN⟩ : ∃ N, N = (rd_T28 t (a : Int)).f1 := ⟨_, rfl⟩
  rw [← hN]
  have HN := Go.Lib.hid hN
  clear hr hs hp hn hA hg ha hN
  obtain ⟨ad1, B2, d2, B3, d3, B4, d4, e_, u0, u1, u2, u3, u4, -, -, -, -, -, -⟩ := at_T28 HR.out (a : Int) (by omega) hal
  subst e_
  rw [← HN.out] at u1
  rw [Int.toNat_natCast] at u1
  have ha0 : (0 : Int) ≤ (a : Int) := by omega
  clear u0 u2 u3 u4 HN
  go_enter Tryd.func50, Tryd.ntmps50
  go_wp2_with fail
  go_loopg [7] t.length (fun g_ v7 w' => ∃ (c : Nat), Hid (t.length ≤ c + g_) ∧ v7 = .int .i64 c ∧ Hid (c < t.length) ∧ Hid (∀ r, Bd t P N c r → Bd t P N a r) ∧ Hid (IA w' g P) ∧ Hid (Below w.heap.size w w'))
  case atStart => exact ⟨a, Go.Lib.hid (by have := HAT.out; omega), rfl, HAT, Go.Lib.hid (fun r h => h), HGA, HB⟩
  case round =>
    clear HGA HB
    obtain ⟨c, hgk, rfl, hc, hbd, hA, hb⟩ := hrel
    obtain ⟨wo, hwo⟩ : ∃ wo : World, wo = wr := ⟨_, rfl⟩
    subst hwo
    obtain ⟨ga, hga⟩ : ∃ ga : Nat, ga = gk := ⟨_, rfl⟩
    subst hga
    have hci : (c : Int) < (t.length : Int) := by have := hc.out; omega
    have hci0 : (0 : Int) ≤ (c : Int) := by omega
    by_cases hroot : c = t.length - 1
    · have hv : P[c]? = some (-1) := by rw [hroot]; exact HP.out.root
      have c1 := hA.out.cell c hv
      have HV := Go.Lib.hid (BdP.mk (hbd.out _ (Bd.stop c hv)) hb.out)
      clear hv hroot
      go_wp2_with fail
      go_ret
      exact HV.out
    · obtain ⟨p, hpl, hv, hcp, hmem⟩ := HP.out.up c (by have := hc.out; omega)
      have HPV := Go.Lib.hid hv
      have c1 := hA.out.cell c hv
      have HCP := Go.Lib.hid hcp
      have HPL := Go.Lib.hid hpl
      have hpi : (p : Int) < (t.length : Int) := by omega
      have hpi0 : (0 : Int) ≤ (p : Int) := by omega
      have hpd : decide ((0 : Int) ≤ (p : Int)) = true := decide_eq_true hpi0
      have HSX := HS.out _ (List.getElem_mem hpl)
      rw [← rdT_nat t p hpl] at HSX
      obtain ⟨ad2, A2, c2, A3, c3, A4, c4, e_, p0, p1, p2, p3, p4, l2, g2, l3, g3, l4, g4⟩ := at_T28 HR.out (p : Int) hpi0 hpi
      cases e_
      rw [Int.toNat_natCast] at p0 p1 p2 p3 p4
      have HHIT := Go.Lib.hid (show hitB (rd_T28 t (p : Int)) c N = true → Bd t P N a p from fun h => hbd.out _ (Bd.hit c p hv h))
      have HUP := Go.Lib.hid (show hitB (rd_T28 t (p : Int)) c N = false → ∀ r, Bd t P N p r → Bd t P N a r from fun h r h2 => hbd.out _ (Bd.up c p r hv h h2))
      generalize rd_T28 t (p : Int) = x at p0 p1 p2 p3 p4 l2 g2 l3 g3 l4 g4 HHIT HUP HSX
      have q3 := pw_cell_below hb.out p3
      have G2 := Go.Lib.hid g2
      have G3 := Go.Lib.hid g3
      have G4 := Go.Lib.hid g4
      have L2 := Go.Lib.hid l2
      have hxl : (x.f3.length : Int) ≤ 9223372036854775807 := by have := G3.out.2.1; omega
      clear hv hcp hpl hmem l2 g2 l3 g3 l4 g4 hbd hroot
      go_wp2_with fail
      go_loopg [31] x.f3.length (fun g_ v31 w' => ∃ j : Nat, Hid (j + g_ = x.f3.length) ∧ v31 = .int .i64 j ∧ Hid (((List.range x.f3.length).take j).any (fun k => decide (rd x.f3 (k : Nat) = (c : Int)) && decide (N ∈ scopeOf x k)) = false) ∧ Hid (IA w' g P) ∧ Hid (Below w.heap.size w w'))
      case atStart => exact ⟨0, Go.Lib.hid (by omega), rfl, Go.Lib.hid rfl, hA, hb⟩
      case round =>
        clear hA hb c1 q3
        obtain ⟨j, hj, rfl, hno, hA, hb⟩ := hrel
        obtain ⟨wi, hwi⟩ : ∃ wi : World, wi = wr := ⟨_, rfl⟩
        subst hwi
        by_cases hlt : j < x.f3.length
        · have hlt2 : (j : Int) < (x.f3.length : Int) := by omega
          have hj0 : (0 : Int) ≤ (j : Int) := by omega
          obtain ⟨ad3, e_, q0⟩ := Kd.at_int (Kd.C_below G3.out hb.out) (j : Int) hj0 hlt2
          subst e_
          have HTJ := Go.Lib.hid (show (List.range x.f3.length).take (j + 1) = (List.range x.f3.length).take j ++ [j] by
            rw [List.take_succ_eq_append_getElem (by rw [List.length_range]; exact hlt), List.getElem_range])
          have HLJ := Go.Lib.hid hlt
          have HANY := Go.Lib.hid (show (decide (rd x.f3 (j : Nat) = (c : Int)) && decide (N ∈ scopeOf x j)) = true → hitB x c N = true from fun h => by
            unfold hitB; rw [List.any_eq_true]; exact ⟨j, List.mem_range.2 hlt, h⟩)
          have HNO := Go.Lib.hid (show (decide (rd x.f3 (j : Nat) = (c : Int)) && decide (N ∈ scopeOf x j)) = false → ((List.range x.f3.length).take (j + 1)).any (fun k => decide (rd x.f3 (k : Nat) = (c : Int)) && decide (N ∈ scopeOf x k)) = false from fun h => by
            rw [HTJ.out, List.any_append, hno.out, List.any_cons, h]; rfl)
          rw [Int.toNat_natCast] at q0
          generalize rd x.f3 (j : Nat) = y at q0 HANY HNO
          clear hlt hno HTJ
          by_cases hy : y = (c : Int)
          · subst hy
            have r0 := pw_cell_below hb.out p0
            have r1 := pw_cell_below hb.out p1
            have r2 := pw_cell_below hb.out p2
            have r3 := pw_cell_below hb.out p3
            have r4 := pw_cell_below hb.out p4
            have HCE := Go.Lib.hid (show Cells ad1 p x A2 (some ad3) A4 c2 c3 c4 ad1 a N w g P wi from ⟨r0, r1, r2, r3, r4, pw_cell_below hb.out u1, Go.Lib.hid ⟨hA.out, hb.out⟩⟩)
            have HKK := Go.Lib.hid (show (x.f0 = 7 ∨ x.f0 = 13) → 0 < j → j - 1 < x.f4.length from fun h h0 => by have := HSX h; have := HLJ.out; omega)
            have HJ9 := Go.Lib.hid (show (j : Int) ≤ 9223372036854775807 by have := HLJ.out; omega)
            clear r0 r1 r2 r3 r4 u1 hb hA p0 p1 p2 p3 p4
            go_wp2_with fail
            go_region_held3 (fun w' => w'.cell? (ad1.add (p * 5)) = some (.int .i64 x.f0) ∧ w'.cell? ⟨(ad1.add (p * 5)).block, (ad1.add (p * 5)).off + 1, none⟩ = some (.int .i64 x.f1) ∧ w'.cell? ⟨(ad1.add (p * 5)).block, (ad1.add (p * 5)).off + 2, none⟩ = some (.slice A2 x.f2.length c2) ∧ w'.cell? ⟨(ad1.add (p * 5)).block, (ad1.add (p * 5)).off + 3, none⟩ = some (.slice (some ad3) x.f3.length c3) ∧ w'.cell? ⟨(ad1.add (p * 5)).block, (ad1.add (p * 5)).off + 4, none⟩ = some (.slice A4 x.f4.length c4) ∧ w'.cell? ⟨(ad1.add (a * 5)).block, (ad1.add (a * 5)).off + 1, none⟩ = some (.int .i64 N) ∧ Hid (Rst w g P w')) (first | exact hNew | exact HCE.out.drew | exact HCE.out.drewN _ | exact HCE.out) (first
              | (go_at_call 81; refine (scope_arm G2 L2 G4 HKK HJ9 (show Cells ad1 p x A2 (some ad3) A4 c2 c3 c4 ad1 a N w g P _ from ‹_ ∧ _ ∧ _ ∧ _ ∧ _ ∧ _ ∧ Hid (Rst w g P _)›)).mono ?_; rintro e wn ⟨A5, c5, rfl, g5, hNew⟩)
              | (go_at_call 51; refine (in_arm _ _ _ _ _ (by assumption)).mono ?_; rintro e wn ⟨rfl, rfl⟩; have hNew := (show Cells ad1 p x A2 (some ad3) A4 c2 c3 c4 ad1 a N w g P _ from ‹_ ∧ _ ∧ _ ∧ _ ∧ _ ∧ _ ∧ Hid (Rst w g P _)›)))
            have HRW := Go.Lib.hid hNew.2.2.2.2.2.2.out
            clear hNew g5
            by_cases hin : N ∈ scopeOf x j
            · have hdi : decide (N ∈ scopeOf x j) = true := decide_eq_true hin
              have HV := Go.Lib.hid (BdP.mk (HHIT.out (HANY.out (by rw [hdi]; rfl))) HRW.out.2)
              clear hin
              rw [hdi]
              go_wp2_with fail
              go_ret
              exact HV.out
            · have hdi : decide (N ∈ scopeOf x j) = false := decide_eq_false hin
              have HN1 := Go.Lib.hid (HNO.out (by rw [hdi, Bool.and_false]))
              clear hin
              rw [hdi]
              go_wp2_with fail
              go_roundg (gk - 1)
              case measure => have := hj.out; have := HLJ.out; omega
              case rel => exact ⟨j + 1, Go.Lib.hid (by have := hj.out; have := HLJ.out; omega), by go_num, HN1, Go.Lib.hid HRW.out.1, Go.Lib.hid HRW.out.2⟩
          · have hb1 : (y == (c : Int)) = false := beq_eq_false_iff_ne.2 hy
            have HN1 := Go.Lib.hid (HNO.out (by rw [decide_eq_false hy]; rfl))
            clear hy
            go_wp2_with fail
            go_quiet (fail)
            go_wp2_with fail
            go_roundg (gk - 1)
            case measure => have := hj.out; have := HLJ.out; omega
            case rel => exact ⟨j + 1, Go.Lib.hid (by have := hj.out; have := HLJ.out; omega), by go_num, HN1, Go.Lib.hid (hA.out.drewN _), Go.Lib.hid (below_dn hb.out _)⟩
        · have hd : decide ((j : Int) < (x.f3.length : Int)) = false := decide_eq_false (by omega)
          have hd2 : decide (j < x.f3.length) = false := decide_eq_false hlt
          have HUP2 := Go.Lib.hid (HUP.out (by
            have h := hno.out
            rw [List.take_of_length_le (by rw [List.length_range]; omega)] at h
            exact h))
          have c1 := hA.out.cell c HPV.out
          clear hlt hj hno
          go_wp2_with fail
          go_roundg (ga - 1)
          case measure => have := hgk.out; have := HCP.out; have := HPL.out; omega
          case rel => exact ⟨p, Go.Lib.hid (by have := hgk.out; have := HCP.out; omega), rfl, HPL, HUP2, hA, hb⟩
end Go.Proofs.YtjhinklijopobaaDoor.Co
namespace Go.Proofs.YtjhinklijopobaaDoor.Co
open Go.RowKit Go.Proofs.YtjhinklijopobaaDoor.PCoreChecks Go.Proofs.YtjhinklijopobaaDoorW.PrintWords Go.Proofs.YtjhinklijopobaaDoorW.PrintLast Go.Proofs.YtjhinklijopobaaDoorW.PrintMore
set_option linter.unusedVariables false
set_option linter.unusedSimpArgs false

/-! ### The numbers of a node: the program's check and the document's -/
/-- A node in the heap. -/
structure Node (w : World) (x : S28) (A2 : Option Addr) (c2 : Nat) (A3 : Option Addr) (c3 : Nat) (A4 : Option Addr) (c4 : Nat) : Prop where
  l2 : x.f2.length ≤ c2
  g2 : Kd.C (Kd.int .i64) w A2 x.f2.length x.f2
  l3 : x.f3.length ≤ c3
  g3 : Kd.C (Kd.int .i64) w A3 x.f3.length x.f3
  l4 : x.f4.length ≤ c4
  g4 : Kd.C k86 w A4 x.f4.length x.f4
theorem Node.below {w w' : World} {x : S28} {A2 A3 A4 : Option Addr} {c2 c3 c4 : Nat} (h : Node w x A2 c2 A3 c3 A4 c4) (hb : Below w.heap.size w w') : Node w' x A2 c2 A3 c3 A4 c4 :=
  ⟨h.l2, Kd.C_below h.g2 hb, h.l3, Kd.C_below h.g3 hb, h.l4, Kd.C_below h.g4 hb⟩
/-- The struct value of a node. -/
abbrev nodeV (x : S28) (A2 : Option Addr) (c2 : Nat) (A3 : Option Addr) (c3 : Nat) (A4 : Option Addr) (c4 : Nat) : Value := .agg #[.int .i64 x.f0, .int .i64 x.f1, .slice A2 x.f2.length c2, .slice A3 x.f3.length c3, .slice A4 x.f4.length c4]
/-- A node's box, and what is older. -/
structure Yx (w : World) (x : S28) (A2 : Option Addr) (c2 : Nat) (A3 : Option Addr) (c3 : Nat) (A4 : Option Addr) (c4 : Nat) (W : World) : Prop where
  bx : W.heap[w.heap.size]? = some (.cells #[.int .i64 x.f0, .int .i64 x.f1, .slice A2 x.f2.length c2, .slice A3 x.f3.length c3, .slice A4 x.f4.length c4] 28 (0, 0))
  b : Below w.heap.size w W
theorem Yx.below {w : World} {x : S28} {A2 : Option Addr} {c2 : Nat} {A3 : Option Addr} {c3 : Nat} {A4 : Option Addr} {c4 : Nat} {W W' : World} (h : Yx w x A2 c2 A3 c3 A4 c4 W) (hb : Below W.heap.size W W') : Yx w x A2 c2 A3 c3 A4 c4 W' := ⟨blk_below h.bx hb, h.b.trans (hb.mono h.b.size)⟩
theorem Yx.made (w : World) (x : S28) (A2 A3 A4 : Option Addr) (c2 c3 c4 : Nat) : Yx w x A2 c2 A3 c3 A4 c4 (w.alloc (.cells #[.int .i64 x.f0, .int .i64 x.f1, .slice A2 x.f2.length c2, .slice A3 x.f3.length c3, .slice A4 x.f4.length c4] 28)) := ⟨blk_new _ _, below_alloc (Below.refl _ _) _⟩
theorem Yx.cells {w W : World} {x : S28} {A2 A3 A4 : Option Addr} {c2 c3 c4 : Nat} (h : Yx w x A2 c2 A3 c3 A4 c4 W) : W.cell? ⟨w.heap.size, 0, none⟩ = some (.int .i64 x.f0) ∧ W.cell? ⟨w.heap.size, 1, none⟩ = some (.int .i64 x.f1) ∧ W.cell? ⟨w.heap.size, 2, none⟩ = some (.slice A2 x.f2.length c2) ∧ W.cell? ⟨w.heap.size, 3, none⟩ = some (.slice A3 x.f3.length c3) ∧ W.cell? ⟨w.heap.size, 4, none⟩ = some (.slice A4 x.f4.length c4) :=
  ⟨(blk_cell h.bx 0).trans rfl, (blk_cell h.bx 1).trans rfl, (blk_cell h.bx 2).trans rfl, (blk_cell h.bx 3).trans rfl, (blk_cell h.bx 4).trans rfl⟩
theorem ins_calls (n lo hi : Int) (W : World) : Calls Tryd.prog 106 #[.int .i64 n, .int .i64 lo, .int .i64 hi] W fun e W' => e = .returned (.bool (inB n lo hi)) ∧ Below W.heap.size W W' :=
  (provenanceref2_inside.calls n lo hi _ W (inside_f n lo hi)).mono fun e W' h => ⟨h.1, h.2.below⟩
theorem btw_calls (n lo hi : Int) (W : World) : Calls Tryd.prog 120 #[.int .i64 n, .int .i64 lo, .int .i64 hi] W fun e W' => e = .returned (.bool (inB n lo hi)) ∧ Below W.heap.size W W' :=
  (core_between.calls n lo hi _ W (between_f n lo hi)).mono fun e W' h => ⟨h.1, h.2.below⟩
def NuP (x : S28) (w : World) (e : Ending) (w' : World) : Prop := e = .returned (.int .i64 (numErr x)) ∧ Below w.heap.size w w'
theorem NuP.mk {x : S28} {w w' : World} {v : Int} (h : numErr x = v) (hb : Below w.heap.size w w') : NuP x w (.returned (.int .i64 v)) w' := ⟨by rw [h], hb⟩
theorem num_lo {x : S28} (h : inB x.f1 (loB x.f0) (hiB x.f0) = false) : numErr x = 4 := by unfold numErr; rw [h]; rfl
theorem num_bad {x : S28} {i : Nat} (hi : i < x.f2.length) (h0 : inB x.f1 (loB x.f0) (hiB x.f0) = true) (h : idB (x.f2[i]'hi) = false) : numErr x = 4 := by
  unfold numErr
  have : x.f2.all idB = false := by rw [List.all_eq_false]; exact ⟨_, List.getElem_mem hi, by rw [h]; decide⟩
  rw [h0, if_pos rfl, this]; rfl
theorem num_alt {x : S28} {i : Nat} (hi : i < x.f4.length) (h0 : inB x.f1 (loB x.f0) (hiB x.f0) = true) (h1 : x.f2.all idB = true) (h : altR x.f0 (x.f4[i]'hi) = false) : numErr x = 4 := by
  unfold numErr
  have : x.f4.all (altR x.f0) = false := by rw [List.all_eq_false]; exact ⟨_, List.getElem_mem hi, by rw [h]; decide⟩
  rw [h0, if_pos rfl, h1, if_pos rfl, this]; rfl
theorem num_end {x : S28} (h0 : inB x.f1 (loB x.f0) (hiB x.f0) = true) (h1 : x.f2.all idB = true) (h2 : x.f4.all (altR x.f0) = true) : numErr x = if largeB x.f0 x.f2.length x.f3.length (longest x.f4 0) = true then 2 else 0 := by
  unfold numErr; rw [h0, if_pos rfl, h1, if_pos rfl, h2, if_pos rfl]
theorem all_snoc {α : Type} (p : α → Bool) (l : List α) (i : Nat) (h : i < l.length) (h0 : (l.take i).all p = true) (h1 : p (l[i]'h) = true) : (l.take (i + 1)).all p = true := by
  rw [List.take_succ_eq_append_getElem h, List.all_append, h0]; simp [h1]
theorem long_snoc (l : List S86) (i : Nat) (h : i < l.length) (m : Int) : longest (l.take (i + 1)) m = mx (longest (l.take i) m) ((l[i]'h).f1.length : Int) := by
  unfold longest
  rw [List.take_succ_eq_append_getElem h, List.foldl_append]; rfl
theorem long_bound (l : List S86) (B : Int) (hl : ∀ y ∈ l, (y.f1.length : Int) ≤ B) : ∀ m : Int, 0 ≤ m → m ≤ B → 0 ≤ longest l m ∧ longest l m ≤ B := by
  induction l with
  | nil => intro m h0 h1; exact ⟨h0, h1⟩
  | cons a l ih =>
    intro m h0 h1
    have ha := hl a (by simp)
    refine ih (fun y hy => hl y (by simp [hy])) (mx m (a.f1.length : Int)) ?_ ?_ <;> (unfold mx; split <;> omega)
theorem largeC_iff (op nk m : Int) : largeC op nk m = true ↔ (op = 2 ∧ 6 < m) ∨ (op ≠ 2 ∧ 16 < m) ∨ ((op = 6 ∨ op = 15) ∧ 16 < nk) ∨ (op = 3 ∧ 7 < nk) ∨ (op = 14 ∧ 6 < nk) := by
  unfold largeC
  simp only [Bool.or_eq_true, Bool.and_eq_true, decide_eq_true_eq]
  by_cases h : op = 2
  · rw [if_pos h]; omega
  · rw [if_neg h]; omega
theorem largeB_iff (op nb nk m : Int) : largeB op nb nk m = true ↔ (op = 2 ∧ 6 < nb) ∨ (op = 3 ∧ 7 < nk) ∨ (op = 14 ∧ 6 < nk) ∨ ((op = 6 ∨ op = 15) ∧ 16 < nk) ∨ 16 < nb ∨ 16 < m := by
  unfold largeB
  simp only [Bool.or_eq_true, Bool.and_eq_true, decide_eq_true_eq]
  omega
/-- The tag of an alternative is out of its range. -/
def badT (op tg : Int) : Bool := decide (1048576 ≤ tg) || (decide (op = 7) && decide (255 < tg))
theorem altR_eq (op : Int) (a : S86) : altR op a = (!badT op a.f0 && a.f1.all idB) := rfl

set_option maxHeartbeats 8000000 in
set_option maxRecDepth 100000 in
theorem rngC_calls (x : S28) (hx : Small x) (h2 : x.f0 = 2 → x.f4 = []) (A2 A3 A4 : Option Addr) (c2 c3 c4 : Nat) (w : World) (h : Node w x A2 c2 A3 c3 A4 c4) :
    Calls Tryd.prog 102 #[nodeV x A2 c2 A3 c3 A4 c4] w (NuP x w) := by
  have HN := Go.Lib.hid h
  have HS := Go.Lib.hid hx
  have H2 := Go.Lib.hid h2
  have HY0 := Go.Lib.hid (Yx.made w x A2 A3 A4 c2 c3 c4)
  have hb9 : (x.f2.length : Int) ≤ 17592186044416 := by have := hx.b; omega
  have hk9 : (x.f3.length : Int) ≤ 17592186044416 := by have := hx.k; omega
  have ha9 : (x.f4.length : Int) ≤ 17592186044416 := by have := hx.a; omega
  obtain ⟨x0, x1, x2, x3, x4⟩ := HY0.out.cells
  clear h hx h2
  go_enter Tryd.func102, Tryd.ntmps102
  go_upto_block 0 with fail
  go_cut [3, 4] from 15 to 22 (fun s3 s4 wx => s3 = .int .i64 (hiB x.f0) ∧ s4 = .int .i64 (loB x.f0) ∧ Hid (Yx w x A2 c2 A3 c3 A4 c4 wx))
  case first =>
    have hcase : x.f0 = 1 ∨ x.f0 = 6 ∨ x.f0 = 17 ∨ x.f0 = 16 ∨ (x.f0 ≠ 1 ∧ x.f0 ≠ 6 ∧ x.f0 ≠ 17 ∧ x.f0 ≠ 16) := by omega
    have HLO := Go.Lib.hid (show loB x.f0 = if x.f0 = 1 then -1073741824 else if x.f0 = 6 then 0 else if x.f0 = 17 then 1 else if x.f0 = 16 then 0 else 0 from rfl)
    have HHI := Go.Lib.hid (show hiB x.f0 = if x.f0 = 1 then 1073741823 else if x.f0 = 6 then 255 else if x.f0 = 17 then 6 else if x.f0 = 16 then 15 else 1048575 from rfl)
    have H := Go.Lib.hid hcase
    have f1 : (x.f0 == 1) = decide (x.f0 = 1) := by rw [Bool.eq_iff_iff]; simp
    have f6 : (x.f0 == 6) = decide (x.f0 = 6) := by rw [Bool.eq_iff_iff]; simp
    have f17 : (x.f0 == 17) = decide (x.f0 = 17) := by rw [Bool.eq_iff_iff]; simp
    have f16 : (x.f0 == 16) = decide (x.f0 = 16) := by rw [Bool.eq_iff_iff]; simp
    rcases hcase with e | e | e | e | ⟨e1, e2, e3, e4⟩
    · rw [decide_eq_true (p := x.f0 = 1) e] at f1
      rw [if_pos e] at HLO HHI
      clear e f6 f17 f16
      go_wp2_with fail
      go_meet
      exact ⟨by rw [HHI.out], by rw [HLO.out], HY0⟩
    · rw [decide_eq_false (p := x.f0 = 1) (by omega)] at f1
      rw [decide_eq_true (p := x.f0 = 6) e] at f6
      rw [if_neg (by omega), if_pos e] at HLO HHI
      clear e f17 f16
      go_wp2_with fail
      go_meet
      exact ⟨by rw [HHI.out], by rw [HLO.out], HY0⟩
    · rw [decide_eq_false (p := x.f0 = 1) (by omega)] at f1
      rw [decide_eq_false (p := x.f0 = 6) (by omega)] at f6
      rw [decide_eq_true (p := x.f0 = 17) e] at f17
      rw [if_neg (by omega), if_neg (by omega), if_pos e] at HLO HHI
      clear e f16
      go_wp2_with fail
      go_meet
      exact ⟨by rw [HHI.out], by rw [HLO.out], HY0⟩
    · rw [decide_eq_false (p := x.f0 = 1) (by omega)] at f1
      rw [decide_eq_false (p := x.f0 = 6) (by omega)] at f6
      rw [decide_eq_false (p := x.f0 = 17) (by omega)] at f17
      rw [decide_eq_true (p := x.f0 = 16) e] at f16
      rw [if_neg (by omega), if_neg (by omega), if_neg (by omega), if_pos e] at HLO HHI
      clear e
      go_wp2_with fail
      go_meet
      exact ⟨by rw [HHI.out], by rw [HLO.out], HY0⟩
    · rw [decide_eq_false e1] at f1
      rw [decide_eq_false e2] at f6
      rw [decide_eq_false e3] at f17
      rw [decide_eq_false e4] at f16
      rw [if_neg e1, if_neg e2, if_neg e3, if_neg e4] at HLO HHI
      clear e1 e2 e3 e4
      go_wp2_with fail
      go_meet
      exact ⟨by rw [HHI.out], by rw [HLO.out], HY0⟩
  case rest =>
    obtain ⟨rfl, rfl, hy⟩ := hcut
    clear x0 x1 x2 x3 x4 HY0
    obtain ⟨x0, x1, x2, x3, x4⟩ := hy.out.cells
    go_wp2_with fail
    refine (btw_calls _ _ _ _).mono ?_
    rintro e w1 ⟨rfl, hb1⟩
    have HY1 := Go.Lib.hid (hy.out.below hb1)
    clear hb1 hy x0 x1 x2 x3 x4
    obtain ⟨x0, x1, x2, x3, x4⟩ := HY1.out.cells
    cases hin : inB x.f1 (loB x.f0) (hiB x.f0) with
    | false =>
      have HV := Go.Lib.hid (NuP.mk (num_lo hin) HY1.out.b)
      clear hin
      go_wp2_with fail
      go_ret
      exact HV.out
    | true =>
      have HI0 := Go.Lib.hid hin
      clear hin
      go_wp2_with fail
      go_loopg [35] x.f2.length (fun g_ v_ w' => ∃ i : Nat, Hid (i + g_ = x.f2.length) ∧ v_ = .int .i64 i ∧ Hid ((x.f2.take i).all idB = true) ∧ Hid (Yx w x A2 c2 A3 c3 A4 c4 w'))
      case atStart => exact ⟨0, Go.Lib.hid (by omega), rfl, Go.Lib.hid rfl, HY1⟩
      case round =>
        clear HY1 x0 x1 x2 x3 x4
        obtain ⟨i, hi, rfl, hall, hy⟩ := hrel
        obtain ⟨wo, hwo⟩ : ∃ wo : World, wo = wr := ⟨_, rfl⟩
        subst hwo
        obtain ⟨x0, x1, x2, x3, x4⟩ := hy.out.cells
        by_cases hlt : i < x.f2.length
        · have hlt' : (i : Int) < (x.f2.length : Int) := by omega
          have hi0 : (0 : Int) ≤ (i : Int) := by omega
          have HI := Go.Lib.hid hlt
          obtain ⟨ad, e_, p0⟩ := Kd.at_int (Kd.C_below HN.out.g2 hy.out.b) (i : Int) hi0 hlt'
          cases e_
          rw [rd_nat x.f2 i hlt, Int.toNat_natCast] at p0
          have HBAD := Go.Lib.hid (fun h => num_bad (x := x) hlt HI0.out h)
          have HSN := Go.Lib.hid (fun h => all_snoc idB x.f2 i hlt hall.out h)
          generalize x.f2[i]'hlt = z at p0 HBAD HSN
          clear hlt
          go_wp2_with fail
          refine (btw_calls _ _ _ _).mono ?_
          rintro e w3 ⟨rfl, hb3⟩
          have HY3 := Go.Lib.hid (hy.out.below hb3)
          clear hb3 p0 x0 x1 x2 x3 x4
          have hidz : inB z 0 1048575 = idB z := rfl
          rw [hidz]
          clear hidz
          cases hz : idB z with
          | false =>
            have HV := Go.Lib.hid (NuP.mk (HBAD.out hz) HY3.out.b)
            clear hz
            go_wp2_with fail
            go_ret
            exact HV.out
          | true =>
            have HA3 := Go.Lib.hid (HSN.out hz)
            clear hz
            go_wp2_with fail
            go_roundg (gk - 1)
            case measure => have := hi.out; have := HI.out; omega
            case rel => exact ⟨i + 1, Go.Lib.hid (by have := hi.out; have := HI.out; omega), by go_num, HA3, HY3⟩
        · have hd : decide ((i : Int) < (x.f2.length : Int)) = false := decide_eq_false (by omega)
          have hd2 : decide (i < x.f2.length) = false := decide_eq_false hlt
          have HA2 := Go.Lib.hid (show x.f2.all idB = true by have h := hall.out; rw [List.take_of_length_le (by omega)] at h; exact h)
          clear hlt hall hi
          go_wp2_with fail
          go_loopg [5, 46] x.f4.length (fun g_ vf_ v_ w' => ∃ (i : Nat) (m : Int), Hid (i + g_ = x.f4.length) ∧ vf_ = .int .i64 m ∧ v_ = .int .i64 i ∧ Hid (m = longest (x.f4.take i) (x.f2.length : Int)) ∧ Hid ((x.f4.take i).all (altR x.f0) = true) ∧ Hid (Yx w x A2 c2 A3 c3 A4 c4 w'))
          case atStart => exact ⟨0, (x.f2.length : Int), Go.Lib.hid (by omega), rfl, rfl, Go.Lib.hid rfl, Go.Lib.hid rfl, hy⟩
          case round =>
            clear hy x0 x1 x2 x3 x4
            obtain ⟨i, m, hi, rfl, rfl, hm, hall, hy⟩ := hrel
            obtain ⟨wo, hwo⟩ : ∃ wo : World, wo = wr := ⟨_, rfl⟩
            subst hwo
            obtain ⟨ga, hga⟩ : ∃ ga : Nat, ga = gk := ⟨_, rfl⟩
            subst hga
            by_cases hlt : i < x.f4.length
            · have hlt' : (i : Int) < (x.f4.length : Int) := by omega
              have hi0 : (0 : Int) ≤ (i : Int) := by omega
              have HI := Go.Lib.hid hlt
              obtain ⟨ad, A1, c1, e_, p0, p1, q1, q2⟩ := at_T86 HN.out.g4 (i : Int) hi0 hlt'
              cases e_
              rw [rdA_nat x.f4 i hlt] at p0 p1 q1 q2
              rw [Int.toNat_natCast] at p0 p1
              replace p0 := pw_cell_below hy.out.b p0
              replace p1 := pw_cell_below hy.out.b p1
              have HBAD := Go.Lib.hid (fun h => num_alt (x := x) hlt HI0.out HA2.out h)
              have HSN := Go.Lib.hid (fun h => all_snoc (altR x.f0) x.f4 i hlt hall.out h)
              have HLS := Go.Lib.hid (long_snoc x.f4 i hlt (x.f2.length : Int))
              have HSM := Go.Lib.hid (HS.out.ab _ (List.getElem_mem hlt))
              generalize x.f4[i]'hlt = a at p0 p1 q1 q2 HBAD HSN HLS HSM
              have HYA := Go.Lib.hid (hy.out.below (below_alloc (Below.refl _ _) (.cells #[.int .i64 a.f0, .slice A1 a.f1.length c1] 86)))
              have HXA := Go.Lib.hid (show (wo.alloc (.cells #[.int .i64 a.f0, .slice A1 a.f1.length c1] 86)).heap[wo.heap.size]? = some (.cells #[.int .i64 a.f0, .slice A1 a.f1.length c1] 86 (0, 0)) from blk_new _ _)
              have ha1 : (a.f1.length : Int) ≤ 17592186044416 := by have := HSM.out; omega
              obtain ⟨wa, hwa⟩ : ∃ wa, wa = wo.alloc (.cells #[.int .i64 a.f0, .slice A1 a.f1.length c1] 86) := ⟨_, rfl⟩
              rw [← hwa] at HYA HXA
              have HQ2 := Go.Lib.hid (Kd.C_below q2 HYA.out.b)
              have HWA := Go.Lib.hid hwa
              clear hlt q1 q2 hwa hy
              go_upto_region 24 with fail
              rw [← HWA.out]
              clear p0 p1
              obtain ⟨x0, x1, x2, x3, x4⟩ := HYA.out.cells
              have y0 : wa.cell? ⟨wo.heap.size, 0, none⟩ = some (.int .i64 a.f0) := (blk_cell HXA.out 0).trans rfl
              have y1 : wa.cell? ⟨wo.heap.size, 1, none⟩ = some (.slice A1 a.f1.length c1) := (blk_cell HXA.out 1).trans rfl
              go_cut [62] from 50 to 62 (fun sx wx => sx = .bool (badT x.f0 a.f0) ∧ wa = wx)
              case first =>
                have HBT := Go.Lib.hid (show badT x.f0 a.f0 = (decide (1048576 ≤ a.f0) || (decide (x.f0 = 7) && decide (255 < a.f0))) from rfl)
                have f7 : (x.f0 == 7) = decide (x.f0 = 7) := by rw [Bool.eq_iff_iff]; simp
                by_cases h7 : x.f0 = 7
                · rw [decide_eq_true h7] at f7 HBT
                  clear h7
                  by_cases hA : 1048576 ≤ a.f0
                  · have d1 : decide (1048576 ≤ a.f0) = true := decide_eq_true hA
                    have d3 : decide (255 < a.f0) = true := decide_eq_true (by omega)
                    rw [d1, Bool.true_or] at HBT
                    clear hA
                    go_wp2_with fail
                    go_meet
                    exact ⟨by rw [HBT.out], rfl⟩
                  · have d1 : decide (1048576 ≤ a.f0) = false := decide_eq_false hA
                    rw [d1, Bool.false_or, Bool.true_and] at HBT
                    by_cases hB : 255 < a.f0
                    · have d3 : decide (255 < a.f0) = true := decide_eq_true hB
                      rw [d3] at HBT
                      clear hA hB
                      go_wp2_with fail
                      go_meet
                      exact ⟨by rw [HBT.out], rfl⟩
                    · have d3 : decide (255 < a.f0) = false := decide_eq_false hB
                      rw [d3] at HBT
                      clear hA hB
                      go_wp2_with fail
                      go_meet
                      exact ⟨by rw [HBT.out], rfl⟩
                · rw [decide_eq_false h7] at f7 HBT
                  rw [Bool.false_and, Bool.or_false] at HBT
                  clear h7
                  by_cases hA : 1048576 ≤ a.f0
                  · have d1 : decide (1048576 ≤ a.f0) = true := decide_eq_true hA
                    have d3 : decide (255 < a.f0) = true := decide_eq_true (by omega)
                    rw [d1] at HBT
                    clear hA
                    go_wp2_with fail
                    go_meet
                    exact ⟨by rw [HBT.out], rfl⟩
                  · have d1 : decide (1048576 ≤ a.f0) = false := decide_eq_false hA
                    rw [d1] at HBT
                    clear hA
                    by_cases hB : 255 < a.f0
                    · have d3 : decide (255 < a.f0) = true := decide_eq_true hB
                      clear hB
                      go_wp2_with fail
                      go_meet
                      exact ⟨by rw [HBT.out], rfl⟩
                    · have d3 : decide (255 < a.f0) = false := decide_eq_false hB
                      clear hB
                      go_wp2_with fail
                      go_meet
                      exact ⟨by rw [HBT.out], rfl⟩
              case rest =>
                obtain ⟨rfl, rfl⟩ := hcut
                cases hbt : badT x.f0 a.f0 with
                | true =>
                  have HV := Go.Lib.hid (NuP.mk (HBAD.out (by rw [altR_eq, hbt]; rfl)) HYA.out.b)
                  clear hbt
                  go_wp2_with fail
                  go_ret
                  exact HV.out
                | false =>
                  have HBT := Go.Lib.hid hbt
                  clear hbt
                  go_wp2_with fail
                  clear x0 x1 x2 x3 x4 y0 y1
                  go_loopg [66] a.f1.length (fun g_ v_ w' => ∃ j : Nat, Hid (j + g_ = a.f1.length) ∧ v_ = .int .i64 j ∧ Hid ((a.f1.take j).all idB = true) ∧ Hid (Below wa.heap.size wa w'))
                  case atStart => exact ⟨0, Go.Lib.hid (by omega), rfl, Go.Lib.hid rfl, Go.Lib.hid (Below.refl _ _)⟩
                  case round =>
                    obtain ⟨j, hj, rfl, hal, hb⟩ := hrel
                    obtain ⟨wi, hwi⟩ : ∃ wi : World, wi = wr := ⟨_, rfl⟩
                    subst hwi
                    by_cases hlt : j < a.f1.length
                    · have hltj : (j : Int) < (a.f1.length : Int) := by omega
                      have hj0 : (0 : Int) ≤ (j : Int) := by omega
                      have HJ := Go.Lib.hid hlt
                      obtain ⟨ad5, e_, p0⟩ := Kd.at_int (Kd.C_below HQ2.out hb.out) (j : Int) hj0 hltj
                      cases e_
                      rw [rd_nat a.f1 j hlt, Int.toNat_natCast] at p0
                      have HSJ := Go.Lib.hid (fun h => all_snoc idB a.f1 j hlt hal.out h)
                      have HMJ := Go.Lib.hid (show idB (a.f1[j]'hlt) = false → a.f1.all idB = false from fun h => by rw [List.all_eq_false]; exact ⟨_, List.getElem_mem hlt, by rw [h]; decide⟩)
                      generalize a.f1[j]'hlt = z at p0 HSJ HMJ
                      clear hlt
                      go_wp2_with fail
                      refine (btw_calls _ _ _ _).mono ?_
                      rintro e w3 ⟨rfl, hb3⟩
                      have HB3 := Go.Lib.hid (below_step hb.out hb3)
                      clear hb3 p0 hb
                      have hidz : inB z 0 1048575 = idB z := rfl
                      rw [hidz]
                      clear hidz
                      cases hz : idB z with
                      | false =>
                        have HV := Go.Lib.hid (NuP.mk (HBAD.out (by rw [altR_eq, HMJ.out hz, Bool.and_false])) (HYA.out.below HB3.out).b)
                        clear hz
                        go_wp2_with fail
                        go_ret
                        exact HV.out
                      | true =>
                        have HA3 := Go.Lib.hid (HSJ.out hz)
                        clear hz
                        go_wp2_with fail
                        go_roundg (gk - 1)
                        case measure => have := hj.out; have := HJ.out; omega
                        case rel => exact ⟨j + 1, Go.Lib.hid (by have := hj.out; have := HJ.out; omega), by go_num, HA3, HB3⟩
                    · have hd : decide ((j : Int) < (a.f1.length : Int)) = false := decide_eq_false (by omega)
                      have hd2 : decide (j < a.f1.length) = false := decide_eq_false hlt
                      have HAR := Go.Lib.hid (HSN.out (by have h := hal.out; rw [List.take_of_length_le (by omega)] at h; rw [altR_eq, HBT.out, h]; rfl))
                      have HYB := Go.Lib.hid (HYA.out.below hb.out)
                      have hxb := blk_below HXA.out hb.out
                      have y1 : wi.cell? ⟨wo.heap.size, 1, none⟩ = some (.slice A1 a.f1.length c1) := (blk_cell hxb 1).trans rfl
                      have HMX := Go.Lib.hid (show (if m < (a.f1.length : Int) then (a.f1.length : Int) else m) = longest (x.f4.take (i + 1)) (x.f2.length : Int) by rw [HLS.out, ← hm.out]; rfl)
                      clear hlt hal hj hxb hb
                      by_cases hmx : m < (a.f1.length : Int)
                      · have hdm : decide (m < (a.f1.length : Int)) = true := decide_eq_true hmx
                        rw [if_pos hmx] at HMX
                        go_wp2_with fail
                        all_goals first
                          | (exfalso; omega)
                          | (go_roundg (ga - 1)
                             case measure => have := hi.out; have := HI.out; omega
                             case rel => exact ⟨i + 1, a.f1.length, Go.Lib.hid (by have := hi.out; have := HI.out; omega), (by first | rfl | (rw [if_pos hmx])), by go_num, HMX, HAR, HYB⟩)
                      · have hdm : decide (m < (a.f1.length : Int)) = false := decide_eq_false hmx
                        rw [if_neg hmx] at HMX
                        go_wp2_with fail
                        all_goals first
                          | (exfalso; omega)
                          | (go_roundg (ga - 1)
                             case measure => have := hi.out; have := HI.out; omega
                             case rel => exact ⟨i + 1, m, Go.Lib.hid (by have := hi.out; have := HI.out; omega), (by first | rfl | (rw [if_neg hmx])), by go_num, HMX, HAR, HYB⟩)
            · have hd : decide ((i : Int) < (x.f4.length : Int)) = false := decide_eq_false (by omega)
              have hd2 : decide (i < x.f4.length) = false := decide_eq_false hlt
              have HA4 := Go.Lib.hid (show x.f4.all (altR x.f0) = true by have h := hall.out; rw [List.take_of_length_le (by omega)] at h; exact h)
              have HM := Go.Lib.hid (show m = longest x.f4 (x.f2.length : Int) by have h := hm.out; rw [List.take_of_length_le (by omega)] at h; exact h)
              have HE := Go.Lib.hid (num_end HI0.out HA2.out HA4.out)
              obtain ⟨x0, x1, x2, x3, x4⟩ := hy.out.cells
              clear hlt hall hi hm
              have HLC := Go.Lib.hid (large_same x.f0 x.f2 x.f3 x.f4 H2.out)
              rw [← HM.out] at HLC
              have HEL := Go.Lib.hid (show numErr x = if largeC x.f0 x.f3.length m = true then 2 else 0 by rw [HE.out, HLC.out])
              by_cases h2 : x.f0 = 2
              · have e2 : (x.f0 == 2) = true := beq_iff_eq.2 h2
                have H22 := Go.Lib.hid h2
                clear h2
                go_wp2_with fail
                all_goals
                  go_ret
                  refine NuP.mk ?_ hy.out.b
                  have := H22.out
                  rw [HEL.out]
                  first
                    | (exfalso; omega)
                    | rw [if_pos ((largeC_iff _ _ _).2 (by omega))]
                    | rw [if_neg (fun h => by have := (largeC_iff _ _ _).1 h; omega)]
              · have e2 : (x.f0 == 2) = false := beq_eq_false_iff_ne.2 h2
                have H22 := Go.Lib.hid h2
                clear h2
                go_wp2_with fail
                all_goals
                  go_ret
                  refine NuP.mk ?_ hy.out.b
                  have := H22.out
                  rw [HEL.out]
                  first
                    | (exfalso; omega)
                    | rw [if_pos ((largeC_iff _ _ _).2 (by omega))]
                    | rw [if_neg (fun h => by have := (largeC_iff _ _ _).1 h; omega)]

set_option maxHeartbeats 8000000 in
set_option maxRecDepth 100000 in
theorem numR_calls (x : S28) (hx : Small x) (A2 A3 A4 : Option Addr) (c2 c3 c4 : Nat) (w : World) (h : Node w x A2 c2 A3 c3 A4 c4) :
    Calls Tryd.prog 77 #[nodeV x A2 c2 A3 c3 A4 c4] w (NuP x w) := by
  have HN := Go.Lib.hid h
  have HS := Go.Lib.hid hx
  have HY0 := Go.Lib.hid (Yx.made w x A2 A3 A4 c2 c3 c4)
  have hb9 : (x.f2.length : Int) ≤ 17592186044416 := by have := hx.b; omega
  have hk9 : (x.f3.length : Int) ≤ 17592186044416 := by have := hx.k; omega
  have ha9 : (x.f4.length : Int) ≤ 17592186044416 := by have := hx.a; omega
  obtain ⟨x0, x1, x2, x3, x4⟩ := HY0.out.cells
  clear h hx 
  go_enter Tryd.func77, Tryd.ntmps77
  go_upto_block 0 with fail
  go_cut [3, 4] from 14 to 21 (fun s3 s4 wx => s3 = .int .i64 (loB x.f0) ∧ s4 = .int .i64 (hiB x.f0) ∧ Hid (Yx w x A2 c2 A3 c3 A4 c4 wx))
  case first =>
    have hcase : x.f0 = 1 ∨ x.f0 = 6 ∨ x.f0 = 17 ∨ x.f0 = 16 ∨ (x.f0 ≠ 1 ∧ x.f0 ≠ 6 ∧ x.f0 ≠ 17 ∧ x.f0 ≠ 16) := by omega
    have HLO := Go.Lib.hid (show loB x.f0 = if x.f0 = 1 then -1073741824 else if x.f0 = 6 then 0 else if x.f0 = 17 then 1 else if x.f0 = 16 then 0 else 0 from rfl)
    have HHI := Go.Lib.hid (show hiB x.f0 = if x.f0 = 1 then 1073741823 else if x.f0 = 6 then 255 else if x.f0 = 17 then 6 else if x.f0 = 16 then 15 else 1048575 from rfl)
    have H := Go.Lib.hid hcase
    have f1 : (x.f0 == 1) = decide (x.f0 = 1) := by rw [Bool.eq_iff_iff]; simp
    have f6 : (x.f0 == 6) = decide (x.f0 = 6) := by rw [Bool.eq_iff_iff]; simp
    have f17 : (x.f0 == 17) = decide (x.f0 = 17) := by rw [Bool.eq_iff_iff]; simp
    have f16 : (x.f0 == 16) = decide (x.f0 = 16) := by rw [Bool.eq_iff_iff]; simp
    rcases hcase with e | e | e | e | ⟨e1, e2, e3, e4⟩
    · rw [decide_eq_true (p := x.f0 = 1) e] at f1
      rw [if_pos e] at HLO HHI
      clear e f6 f17 f16
      go_wp2_with fail
      go_meet
      exact ⟨by rw [HLO.out], by rw [HHI.out], HY0⟩
    · rw [decide_eq_false (p := x.f0 = 1) (by omega)] at f1
      rw [decide_eq_true (p := x.f0 = 6) e] at f6
      rw [if_neg (by omega), if_pos e] at HLO HHI
      clear e f17 f16
      go_wp2_with fail
      go_meet
      exact ⟨by rw [HLO.out], by rw [HHI.out], HY0⟩
    · rw [decide_eq_false (p := x.f0 = 1) (by omega)] at f1
      rw [decide_eq_false (p := x.f0 = 6) (by omega)] at f6
      rw [decide_eq_true (p := x.f0 = 17) e] at f17
      rw [if_neg (by omega), if_neg (by omega), if_pos e] at HLO HHI
      clear e f16
      go_wp2_with fail
      go_meet
      exact ⟨by rw [HLO.out], by rw [HHI.out], HY0⟩
    · rw [decide_eq_false (p := x.f0 = 1) (by omega)] at f1
      rw [decide_eq_false (p := x.f0 = 6) (by omega)] at f6
      rw [decide_eq_false (p := x.f0 = 17) (by omega)] at f17
      rw [decide_eq_true (p := x.f0 = 16) e] at f16
      rw [if_neg (by omega), if_neg (by omega), if_neg (by omega), if_pos e] at HLO HHI
      clear e
      go_wp2_with fail
      go_meet
      exact ⟨by rw [HLO.out], by rw [HHI.out], HY0⟩
    · rw [decide_eq_false e1] at f1
      rw [decide_eq_false e2] at f6
      rw [decide_eq_false e3] at f17
      rw [decide_eq_false e4] at f16
      rw [if_neg e1, if_neg e2, if_neg e3, if_neg e4] at HLO HHI
      clear e1 e2 e3 e4
      go_wp2_with fail
      go_meet
      exact ⟨by rw [HLO.out], by rw [HHI.out], HY0⟩
  case rest =>
    obtain ⟨rfl, rfl, hy⟩ := hcut
    clear x0 x1 x2 x3 x4 HY0
    obtain ⟨x0, x1, x2, x3, x4⟩ := hy.out.cells
    go_wp2_with fail
    refine (ins_calls _ _ _ _).mono ?_
    rintro e w1 ⟨rfl, hb1⟩
    have HY1 := Go.Lib.hid (hy.out.below hb1)
    clear hb1 hy x0 x1 x2 x3 x4
    obtain ⟨x0, x1, x2, x3, x4⟩ := HY1.out.cells
    cases hin : inB x.f1 (loB x.f0) (hiB x.f0) with
    | false =>
      have HV := Go.Lib.hid (NuP.mk (num_lo hin) HY1.out.b)
      clear hin
      go_wp2_with fail
      go_ret
      exact HV.out
    | true =>
      have HI0 := Go.Lib.hid hin
      clear hin
      go_wp2_with fail
      go_loopg [31] x.f2.length (fun g_ v_ w' => ∃ i : Nat, Hid (i + g_ = x.f2.length) ∧ v_ = .int .i64 i ∧ Hid ((x.f2.take i).all idB = true) ∧ Hid (Yx w x A2 c2 A3 c3 A4 c4 w'))
      case atStart => exact ⟨0, Go.Lib.hid (by omega), rfl, Go.Lib.hid rfl, HY1⟩
      case round =>
        clear HY1 x0 x1 x2 x3 x4
        obtain ⟨i, hi, rfl, hall, hy⟩ := hrel
        obtain ⟨wo, hwo⟩ : ∃ wo : World, wo = wr := ⟨_, rfl⟩
        subst hwo
        obtain ⟨x0, x1, x2, x3, x4⟩ := hy.out.cells
        by_cases hlt : i < x.f2.length
        · have hlt' : (i : Int) < (x.f2.length : Int) := by omega
          have hi0 : (0 : Int) ≤ (i : Int) := by omega
          have HI := Go.Lib.hid hlt
          obtain ⟨ad, e_, p0⟩ := Kd.at_int (Kd.C_below HN.out.g2 hy.out.b) (i : Int) hi0 hlt'
          cases e_
          rw [rd_nat x.f2 i hlt, Int.toNat_natCast] at p0
          have HBAD := Go.Lib.hid (fun h => num_bad (x := x) hlt HI0.out h)
          have HSN := Go.Lib.hid (fun h => all_snoc idB x.f2 i hlt hall.out h)
          generalize x.f2[i]'hlt = z at p0 HBAD HSN
          clear hlt
          go_wp2_with fail
          refine (ins_calls _ _ _ _).mono ?_
          rintro e w3 ⟨rfl, hb3⟩
          have HY3 := Go.Lib.hid (hy.out.below hb3)
          clear hb3 p0 x0 x1 x2 x3 x4
          have hidz : inB z 0 1048575 = idB z := rfl
          rw [hidz]
          clear hidz
          cases hz : idB z with
          | false =>
            have HV := Go.Lib.hid (NuP.mk (HBAD.out hz) HY3.out.b)
            clear hz
            go_wp2_with fail
            go_ret
            exact HV.out
          | true =>
            have HA3 := Go.Lib.hid (HSN.out hz)
            clear hz
            go_wp2_with fail
            go_roundg (gk - 1)
            case measure => have := hi.out; have := HI.out; omega
            case rel => exact ⟨i + 1, Go.Lib.hid (by have := hi.out; have := HI.out; omega), by go_num, HA3, HY3⟩
        · have hd : decide ((i : Int) < (x.f2.length : Int)) = false := decide_eq_false (by omega)
          have hd2 : decide (i < x.f2.length) = false := decide_eq_false hlt
          have HA2 := Go.Lib.hid (show x.f2.all idB = true by have h := hall.out; rw [List.take_of_length_le (by omega)] at h; exact h)
          clear hlt hall hi
          go_wp2_with fail
          go_loopg [7, 42] x.f4.length (fun g_ vf_ v_ w' => ∃ (i : Nat) (m : Int), Hid (i + g_ = x.f4.length) ∧ vf_ = .int .i64 m ∧ v_ = .int .i64 i ∧ Hid (m = longest (x.f4.take i) 0) ∧ Hid ((x.f4.take i).all (altR x.f0) = true) ∧ Hid (Yx w x A2 c2 A3 c3 A4 c4 w'))
          case atStart => exact ⟨0, 0, Go.Lib.hid (by omega), rfl, rfl, Go.Lib.hid rfl, Go.Lib.hid rfl, hy⟩
          case round =>
            clear hy x0 x1 x2 x3 x4
            obtain ⟨i, m, hi, rfl, rfl, hm, hall, hy⟩ := hrel
            obtain ⟨wo, hwo⟩ : ∃ wo : World, wo = wr := ⟨_, rfl⟩
            subst hwo
            obtain ⟨ga, hga⟩ : ∃ ga : Nat, ga = gk := ⟨_, rfl⟩
            subst hga
            by_cases hlt : i < x.f4.length
            · have hlt' : (i : Int) < (x.f4.length : Int) := by omega
              have hi0 : (0 : Int) ≤ (i : Int) := by omega
              have HI := Go.Lib.hid hlt
              obtain ⟨ad, A1, c1, e_, p0, p1, q1, q2⟩ := at_T86 HN.out.g4 (i : Int) hi0 hlt'
              cases e_
              rw [rdA_nat x.f4 i hlt] at p0 p1 q1 q2
              rw [Int.toNat_natCast] at p0 p1
              replace p0 := pw_cell_below hy.out.b p0
              replace p1 := pw_cell_below hy.out.b p1
              have HBAD := Go.Lib.hid (fun h => num_alt (x := x) hlt HI0.out HA2.out h)
              have HSN := Go.Lib.hid (fun h => all_snoc (altR x.f0) x.f4 i hlt hall.out h)
              have HLS := Go.Lib.hid (long_snoc x.f4 i hlt 0)
              have HSM := Go.Lib.hid (HS.out.ab _ (List.getElem_mem hlt))
              generalize x.f4[i]'hlt = a at p0 p1 q1 q2 HBAD HSN HLS HSM
              have HYA := Go.Lib.hid (hy.out.below (below_alloc (Below.refl _ _) (.cells #[.int .i64 a.f0, .slice A1 a.f1.length c1] 86)))
              have HXA := Go.Lib.hid (show (wo.alloc (.cells #[.int .i64 a.f0, .slice A1 a.f1.length c1] 86)).heap[wo.heap.size]? = some (.cells #[.int .i64 a.f0, .slice A1 a.f1.length c1] 86 (0, 0)) from blk_new _ _)
              have ha1 : (a.f1.length : Int) ≤ 17592186044416 := by have := HSM.out; omega
              obtain ⟨wa, hwa⟩ : ∃ wa, wa = wo.alloc (.cells #[.int .i64 a.f0, .slice A1 a.f1.length c1] 86) := ⟨_, rfl⟩
              rw [← hwa] at HYA HXA
              have HQ2 := Go.Lib.hid (Kd.C_below q2 HYA.out.b)
              have HWA := Go.Lib.hid hwa
              clear hlt q1 q2 hwa hy
              go_upto_region 23 with fail
              rw [← HWA.out]
              clear p0 p1
              obtain ⟨x0, x1, x2, x3, x4⟩ := HYA.out.cells
              have y0 : wa.cell? ⟨wo.heap.size, 0, none⟩ = some (.int .i64 a.f0) := (blk_cell HXA.out 0).trans rfl
              have y1 : wa.cell? ⟨wo.heap.size, 1, none⟩ = some (.slice A1 a.f1.length c1) := (blk_cell HXA.out 1).trans rfl
              go_cut [58] from 46 to 58 (fun sx wx => sx = .bool (badT x.f0 a.f0) ∧ wa = wx)
              case first =>
                have HBT := Go.Lib.hid (show badT x.f0 a.f0 = (decide (1048576 ≤ a.f0) || (decide (x.f0 = 7) && decide (255 < a.f0))) from rfl)
                have f7 : (x.f0 == 7) = decide (x.f0 = 7) := by rw [Bool.eq_iff_iff]; simp
                by_cases h7 : x.f0 = 7
                · rw [decide_eq_true h7] at f7 HBT
                  clear h7
                  by_cases hA : 1048576 ≤ a.f0
                  · have d1 : decide (1048576 ≤ a.f0) = true := decide_eq_true hA
                    have d3 : decide (255 < a.f0) = true := decide_eq_true (by omega)
                    rw [d1, Bool.true_or] at HBT
                    clear hA
                    go_wp2_with fail
                    go_meet
                    exact ⟨by rw [HBT.out], rfl⟩
                  · have d1 : decide (1048576 ≤ a.f0) = false := decide_eq_false hA
                    rw [d1, Bool.false_or, Bool.true_and] at HBT
                    by_cases hB : 255 < a.f0
                    · have d3 : decide (255 < a.f0) = true := decide_eq_true hB
                      rw [d3] at HBT
                      clear hA hB
                      go_wp2_with fail
                      go_meet
                      exact ⟨by rw [HBT.out], rfl⟩
                    · have d3 : decide (255 < a.f0) = false := decide_eq_false hB
                      rw [d3] at HBT
                      clear hA hB
                      go_wp2_with fail
                      go_meet
                      exact ⟨by rw [HBT.out], rfl⟩
                · rw [decide_eq_false h7] at f7 HBT
                  rw [Bool.false_and, Bool.or_false] at HBT
                  clear h7
                  by_cases hA : 1048576 ≤ a.f0
                  · have d1 : decide (1048576 ≤ a.f0) = true := decide_eq_true hA
                    have d3 : decide (255 < a.f0) = true := decide_eq_true (by omega)
                    rw [d1] at HBT
                    clear hA
                    go_wp2_with fail
                    go_meet
                    exact ⟨by rw [HBT.out], rfl⟩
                  · have d1 : decide (1048576 ≤ a.f0) = false := decide_eq_false hA
                    rw [d1] at HBT
                    clear hA
                    by_cases hB : 255 < a.f0
                    · have d3 : decide (255 < a.f0) = true := decide_eq_true hB
                      clear hB
                      go_wp2_with fail
                      go_meet
                      exact ⟨by rw [HBT.out], rfl⟩
                    · have d3 : decide (255 < a.f0) = false := decide_eq_false hB
                      clear hB
                      go_wp2_with fail
                      go_meet
                      exact ⟨by rw [HBT.out], rfl⟩
              case rest =>
                obtain ⟨rfl, rfl⟩ := hcut
                cases hbt : badT x.f0 a.f0 with
                | true =>
                  have HV := Go.Lib.hid (NuP.mk (HBAD.out (by rw [altR_eq, hbt]; rfl)) HYA.out.b)
                  clear hbt
                  go_wp2_with fail
                  go_ret
                  exact HV.out
                | false =>
                  have HBT := Go.Lib.hid hbt
                  clear hbt
                  go_wp2_with fail
                  clear x0 x1 x2 x3 x4 y0 y1
                  go_loopg [62] a.f1.length (fun g_ v_ w' => ∃ j : Nat, Hid (j + g_ = a.f1.length) ∧ v_ = .int .i64 j ∧ Hid ((a.f1.take j).all idB = true) ∧ Hid (Below wa.heap.size wa w'))
                  case atStart => exact ⟨0, Go.Lib.hid (by omega), rfl, Go.Lib.hid rfl, Go.Lib.hid (Below.refl _ _)⟩
                  case round =>
                    obtain ⟨j, hj, rfl, hal, hb⟩ := hrel
                    obtain ⟨wi, hwi⟩ : ∃ wi : World, wi = wr := ⟨_, rfl⟩
                    subst hwi
                    by_cases hlt : j < a.f1.length
                    · have hltj : (j : Int) < (a.f1.length : Int) := by omega
                      have hj0 : (0 : Int) ≤ (j : Int) := by omega
                      have HJ := Go.Lib.hid hlt
                      obtain ⟨ad5, e_, p0⟩ := Kd.at_int (Kd.C_below HQ2.out hb.out) (j : Int) hj0 hltj
                      cases e_
                      rw [rd_nat a.f1 j hlt, Int.toNat_natCast] at p0
                      have HSJ := Go.Lib.hid (fun h => all_snoc idB a.f1 j hlt hal.out h)
                      have HMJ := Go.Lib.hid (show idB (a.f1[j]'hlt) = false → a.f1.all idB = false from fun h => by rw [List.all_eq_false]; exact ⟨_, List.getElem_mem hlt, by rw [h]; decide⟩)
                      generalize a.f1[j]'hlt = z at p0 HSJ HMJ
                      clear hlt
                      go_wp2_with fail
                      refine (ins_calls _ _ _ _).mono ?_
                      rintro e w3 ⟨rfl, hb3⟩
                      have HB3 := Go.Lib.hid (below_step hb.out hb3)
                      clear hb3 p0 hb
                      have hidz : inB z 0 1048575 = idB z := rfl
                      rw [hidz]
                      clear hidz
                      cases hz : idB z with
                      | false =>
                        have HV := Go.Lib.hid (NuP.mk (HBAD.out (by rw [altR_eq, HMJ.out hz, Bool.and_false])) (HYA.out.below HB3.out).b)
                        clear hz
                        go_wp2_with fail
                        go_ret
                        exact HV.out
                      | true =>
                        have HA3 := Go.Lib.hid (HSJ.out hz)
                        clear hz
                        go_wp2_with fail
                        go_roundg (gk - 1)
                        case measure => have := hj.out; have := HJ.out; omega
                        case rel => exact ⟨j + 1, Go.Lib.hid (by have := hj.out; have := HJ.out; omega), by go_num, HA3, HB3⟩
                    · have hd : decide ((j : Int) < (a.f1.length : Int)) = false := decide_eq_false (by omega)
                      have hd2 : decide (j < a.f1.length) = false := decide_eq_false hlt
                      have HAR := Go.Lib.hid (HSN.out (by have h := hal.out; rw [List.take_of_length_le (by omega)] at h; rw [altR_eq, HBT.out, h]; rfl))
                      have HYB := Go.Lib.hid (HYA.out.below hb.out)
                      have hxb := blk_below HXA.out hb.out
                      have y1 : wi.cell? ⟨wo.heap.size, 1, none⟩ = some (.slice A1 a.f1.length c1) := (blk_cell hxb 1).trans rfl
                      have HMX := Go.Lib.hid (show (if m < (a.f1.length : Int) then (a.f1.length : Int) else m) = longest (x.f4.take (i + 1)) 0 by rw [HLS.out, ← hm.out]; rfl)
                      clear hlt hal hj hxb hb
                      by_cases hmx : m < (a.f1.length : Int)
                      · have hdm : decide (m < (a.f1.length : Int)) = true := decide_eq_true hmx
                        rw [if_pos hmx] at HMX
                        go_wp2_with fail
                        all_goals first
                          | (exfalso; omega)
                          | (go_roundg (ga - 1)
                             case measure => have := hi.out; have := HI.out; omega
                             case rel => exact ⟨i + 1, a.f1.length, Go.Lib.hid (by have := hi.out; have := HI.out; omega), (by first | rfl | (rw [if_pos hmx])), by go_num, HMX, HAR, HYB⟩)
                      · have hdm : decide (m < (a.f1.length : Int)) = false := decide_eq_false hmx
                        rw [if_neg hmx] at HMX
                        go_wp2_with fail
                        all_goals first
                          | (exfalso; omega)
                          | (go_roundg (ga - 1)
                             case measure => have := hi.out; have := HI.out; omega
                             case rel => exact ⟨i + 1, m, Go.Lib.hid (by have := hi.out; have := HI.out; omega), (by first | rfl | (rw [if_neg hmx])), by go_num, HMX, HAR, HYB⟩)
            · have hd : decide ((i : Int) < (x.f4.length : Int)) = false := decide_eq_false (by omega)
              have hd2 : decide (i < x.f4.length) = false := decide_eq_false hlt
              have HA4 := Go.Lib.hid (show x.f4.all (altR x.f0) = true by have h := hall.out; rw [List.take_of_length_le (by omega)] at h; exact h)
              have HM := Go.Lib.hid (show m = longest x.f4 0 by have h := hm.out; rw [List.take_of_length_le (by omega)] at h; exact h)
              have HE := Go.Lib.hid (num_end HI0.out HA2.out HA4.out)
              obtain ⟨x0, x1, x2, x3, x4⟩ := hy.out.cells
              clear hlt hall hi hm
              rw [← HM.out] at HE
              go_wp2_with fail
              all_goals
                go_ret
                refine NuP.mk ?_ hy.out.b
                rw [HE.out]
                first
                  | rw [if_pos ((largeB_iff _ _ _ _).2 (by omega))]
                  | rw [if_neg (fun h => by have := (largeB_iff _ _ _ _).1 h; omega)]

end Go.Proofs.YtjhinklijopobaaDoor.Co
namespace Go.Proofs.YtjhinklijopobaaDoor.Co
open Go.RowKit Go.Proofs.YtjhinklijopobaaDoor.PCoreChecks Go.Proofs.YtjhinklijopobaaDoorW.PrintWords Go.Proofs.YtjhinklijopobaaDoorW.PrintLast Go.Proofs.YtjhinklijopobaaDoorW.PrintMore
set_option linter.unusedVariables false
set_option linter.unusedSimpArgs false

/-! ### goodKids answers kidsB -/
theorem kids_bad {t : List S28} {x : S28} {i : Nat} (hi : i < x.f2.length) (h : kidB t x i = false) : kidsB t x = false := by
  unfold kidsB; rw [List.all_eq_false]; exact ⟨i, List.mem_range.2 hi, by rw [h]; decide⟩
theorem kids_snoc {t : List S28} {x : S28} {i : Nat} (hi : i < x.f2.length) (h : ((List.range x.f2.length).take i).all (kidB t x) = true) (h2 : kidB t x i = true) : ((List.range x.f2.length).take (i + 1)).all (kidB t x) = true :=
  all_snoc (kidB t x) (List.range x.f2.length) i (by rw [List.length_range]; exact hi) h (by rw [List.getElem_range]; exact h2)
/-- What the check of the kids answers, and the world behind it. -/
def KiP (t : List S28) (x : S28) (w : World) : Ending → World → Prop := fun e w' => e = .returned (.bool (kidsB t x)) ∧ Below w.heap.size w w'
theorem KiP.mk {t : List S28} {x : S28} {w w' : World} {b : Bool} (h : kidsB t x = b) (hb : Below w.heap.size w w') : KiP t x w (.returned (.bool b)) w' := ⟨by rw [h], hb⟩
set_option maxHeartbeats 8000000 in
set_option maxRecDepth 100000 in
theorem kidsR_calls (t : List S28) (x : S28) (hx : Small x) (h5 : x.f0 = 5 → ∀ i : Nat, i < x.f2.length → (i < x.f3.length ∧ 0 ≤ rd x.f3 i ∧ rd x.f3 i < (t.length : Int))) (A0 A2 A3 A4 : Option Addr) (c0 c2 c3 c4 : Nat) (w : World) (hr : Kd.C k28 w A0 t.length t) (hc : t.length ≤ c0) (h : Node w x A2 c2 A3 c3 A4 c4) :
    Calls Tryd.prog 78 #[.slice A0 t.length c0, nodeV x A2 c2 A3 c3 A4 c4] w (KiP t x w) := by
  have HN := Go.Lib.hid h
  have HR := Go.Lib.hid hr
  have HS := Go.Lib.hid hx
  have H5 := Go.Lib.hid h5
  have HY0 := Go.Lib.hid (Yx.made w x A2 A3 A4 c2 c3 c4)
  have hb9 : (x.f2.length : Int) ≤ 17592186044416 := by have := hx.b; omega
  obtain ⟨x0, x1, x2, x3, x4⟩ := HY0.out.cells
  clear h hx h5 hr hc
  go_enter Tryd.func78, Tryd.ntmps78
  go_wp2_with fail
  go_loopg [9] x.f2.length (fun g_ v_ w' => ∃ i : Nat, Hid (i + g_ = x.f2.length) ∧ v_ = .int .i64 i ∧ Hid (((List.range x.f2.length).take i).all (kidB t x) = true) ∧ Hid (Yx w x A2 c2 A3 c3 A4 c4 w'))
  case atStart => exact ⟨0, Go.Lib.hid (by omega), rfl, Go.Lib.hid rfl, HY0⟩
  case round =>
    clear HY0 x0 x1 x2 x3 x4
    obtain ⟨i, hi, rfl, hall, hy⟩ := hrel
    obtain ⟨wo, hwo⟩ : ∃ wo : World, wo = wr := ⟨_, rfl⟩
    subst hwo
    obtain ⟨x0, x1, x2, x3, x4⟩ := hy.out.cells
    have z0 := blk_frozen hy.out.bx 0
    have z1 := blk_frozen hy.out.bx 1
    have z2 := blk_frozen hy.out.bx 2
    have z3 := blk_frozen hy.out.bx 3
    have z4 := blk_frozen hy.out.bx 4
    obtain ⟨n, hn⟩ : ∃ n : Int, n = (i : Int) := ⟨_, rfl⟩
    rw [← hn]
    have HNI := Go.Lib.hid hn
    by_cases hlt : n < (x.f2.length : Int)
    · have hlti : i < x.f2.length := by omega
      have hi0 : 0 ≤ n := by omega
      have HI := Go.Lib.hid hlti
      have HBAD := Go.Lib.hid (fun h => kids_bad (t := t) hlti h)
      have HSN := Go.Lib.hid (fun h => kids_snoc (t := t) hlti hall.out h)
      have HK := Go.Lib.hid (show kidB t x i = !((decide (x.f0 = 5) && decide ((rd_T28 t (rd x.f3 n)).f0 ≠ 2)) || (decide (x.f0 = 9) && (decide (0 < n) && decide (rd x.f2 n ≤ rd x.f2 (n - 1))))) by
        have h0 : decide (0 < n) = decide (0 < i) := decide_eq_decide.2 (by omega)
        rw [h0, hn]; rfl)
      have dlt : decide (n < (x.f2.length : Int)) = true := decide_eq_true hlt
      have di0 : decide (0 ≤ n) = true := decide_eq_true hi0
      by_cases h5 : x.f0 = 5
      · have e5 : (x.f0 == 5) = true := beq_iff_eq.2 h5
        have n5 : (x.f0 != 5) = false := by rw [bne, e5]; rfl
        have e9 : (x.f0 == 9) = false := beq_eq_false_iff_ne.2 (by omega)
        have n9 : (x.f0 != 9) = true := by rw [bne, e9]; rfl
        obtain ⟨q1, q2, q3⟩ := H5.out h5 i hlti
        rw [← hn] at q2 q3
        have q1' : n < (x.f3.length : Int) := by omega
        obtain ⟨ad, e_, p0⟩ := Kd.at_int (Kd.C_below HN.out.g3 hy.out.b) n hi0 q1'
        cases e_
        obtain ⟨ad2, B2, d2, B3, d3, B4, d4, e_, u0, u1, u2, u3, u4, -, -, -, -, -, -⟩ := at_T28 (Kd.C_below HR.out hy.out.b) (rd x.f3 n) q2 q3
        cases e_
        rw [decide_eq_true h5, decide_eq_false (p := x.f0 = 9) (by omega), Bool.true_and, Bool.false_and, Bool.or_false] at HK
        generalize rd x.f3 n = z at p0 u0 u1 u2 u3 u4 q2 q3 HK
        generalize (rd_T28 t z).f0 = zo at u0 HK
        have dq2 : decide (0 ≤ z) = true := decide_eq_true q2
        have dq3 : decide (z < (t.length : Int)) = true := decide_eq_true q3
        have dq1 : decide (n < (x.f3.length : Int)) = true := decide_eq_true q1'
        replace q2 := eq_true q2
        replace q3 := eq_true q3
        replace q1' := eq_true q1'
        replace hi0 := eq_true hi0
        clear hlt hlti hn h5 q1 u1 u2 u3 u4
        by_cases hz : zo = 2
        · have ez : (zo == 2) = true := beq_iff_eq.2 hz
          have nz : (zo != 2) = false := by rw [bne, ez]; rfl
          have HA3 := Go.Lib.hid (HSN.out (by rw [HK.out]; simp [hz]))
          clear hz
          go_wp2_with fail
          go_quiet (fail)
          go_wp2_with fail
          go_roundg (gk - 1)
          case measure => have := hi.out; have := HI.out; omega
          case rel => exact ⟨i + 1, Go.Lib.hid (by have := hi.out; have := HI.out; omega), (by have := HI.out; rw [HNI.out]; first | exact congrArg _ ((i64_w _).trans (up_nat i (by omega))) | exact congrArg _ (up_nat i (by omega))), HA3, Go.Lib.hid (hy.out.below (pw_below_drewN (Below.refl _ _) _))⟩
        · have ez : (zo == 2) = false := beq_eq_false_iff_ne.2 hz
          have nz : (zo != 2) = true := by rw [bne, ez]; rfl
          have HV := Go.Lib.hid (HBAD.out (by rw [HK.out]; simp [hz]))
          clear hz
          go_wp2_with fail
          go_quiet (fail)
          go_wp2_with fail
          go_ret
          exact KiP.mk HV.out (hy.out.below (pw_below_drewN (Below.refl _ _) _)).b
      · have e5 : (x.f0 == 5) = false := beq_eq_false_iff_ne.2 h5
        have n5 : (x.f0 != 5) = true := by rw [bne, e5]; rfl
        rw [decide_eq_false h5, Bool.false_and, Bool.false_or] at HK
        by_cases h9 : x.f0 = 9
        · have e9 : (x.f0 == 9) = true := beq_iff_eq.2 h9
          have n9 : (x.f0 != 9) = false := by rw [bne, e9]; rfl
          rw [decide_eq_true h9, Bool.true_and] at HK
          by_cases h0 : 0 < n
          · have h0n : decide (0 < n) = true := decide_eq_true h0
            have ew0 : IntKind.i64.wrap (n - 1) = n - 1 := (i64_w _).trans (wrap_small (by omega) (by omega))
            have q0 : 0 ≤ n - 1 := by omega
            have q1 : n - 1 < (x.f2.length : Int) := by omega
            obtain ⟨ad, e_, p0⟩ := Kd.at_int (Kd.C_below HN.out.g2 hy.out.b) n hi0 hlt
            cases e_
            obtain ⟨ad2, e_, p1⟩ := Kd.at_int (Kd.C_below HN.out.g2 hy.out.b) (n - 1) q0 q1
            cases e_
            rw [decide_eq_true h0, Bool.true_and] at HK
            obtain ⟨j, hj⟩ : ∃ j : Int, j = n - 1 := ⟨_, rfl⟩
            rw [← hj] at p1 q0 q1 HK
            have ew : IntKind.i64.wrap (n - 1) = j := ew0.trans hj.symm
            generalize rd x.f2 n = za at p0 HK
            generalize rd x.f2 j = zb at p1 HK
            have dq0 : decide (0 ≤ j) = true := decide_eq_true q0
            have dq1 : decide (j < (x.f2.length : Int)) = true := decide_eq_true q1
            replace q0 := eq_true q0
            replace q1 := eq_true q1
            replace hi0 := eq_true hi0
            replace hlt := eq_true hlt
            clear hlti h5 h9 h0 hn hj ew0
            by_cases hz : za ≤ zb
            · have dz : decide (za ≤ zb) = true := decide_eq_true hz
              have HV := Go.Lib.hid (HBAD.out (by rw [HK.out, dz]; rfl))
              clear hz
              go_wp2_with fail
              go_quiet (fail)
              go_wp2_with fail
              go_ret
              exact KiP.mk HV.out (hy.out.below (pw_below_drewN (Below.refl _ _) _)).b
            · have dz : decide (za ≤ zb) = false := decide_eq_false hz
              have HA3 := Go.Lib.hid (HSN.out (by rw [HK.out, dz]; rfl))
              clear hz
              go_wp2_with fail
              go_quiet (fail)
              go_wp2_with fail
              go_roundg (gk - 1)
              case measure => have := hi.out; have := HI.out; omega
              case rel => exact ⟨i + 1, Go.Lib.hid (by have := hi.out; have := HI.out; omega), (by have := HI.out; rw [HNI.out]; first | exact congrArg _ ((i64_w _).trans (up_nat i (by omega))) | exact congrArg _ (up_nat i (by omega))), HA3, Go.Lib.hid (hy.out.below (pw_below_drewN (Below.refl _ _) _))⟩
          · have h0n : decide (0 < n) = false := decide_eq_false h0
            have HA3 := Go.Lib.hid (HSN.out (by rw [HK.out, decide_eq_false h0]; rfl))
            clear hlt hlti h5 h9 h0 hn hi0
            go_wp2_with fail
            go_quiet (fail)
            go_wp2_with fail
            go_roundg (gk - 1)
            case measure => have := hi.out; have := HI.out; omega
            case rel => exact ⟨i + 1, Go.Lib.hid (by have := hi.out; have := HI.out; omega), (by have := HI.out; rw [HNI.out]; first | exact congrArg _ ((i64_w _).trans (up_nat i (by omega))) | exact congrArg _ (up_nat i (by omega))), HA3, Go.Lib.hid (hy.out.below (pw_below_drewN (Below.refl _ _) _))⟩
        · have e9 : (x.f0 == 9) = false := beq_eq_false_iff_ne.2 h9
          have n9 : (x.f0 != 9) = true := by rw [bne, e9]; rfl
          have HA3 := Go.Lib.hid (HSN.out (by rw [HK.out, decide_eq_false h9]; rfl))
          clear hlt hlti h5 h9 hn hi0
          go_wp2_with fail
          go_quiet (fail)
          go_wp2_with fail
          go_roundg (gk - 1)
          case measure => have := hi.out; have := HI.out; omega
          case rel => exact ⟨i + 1, Go.Lib.hid (by have := hi.out; have := HI.out; omega), (by have := HI.out; rw [HNI.out]; first | exact congrArg _ ((i64_w _).trans (up_nat i (by omega))) | exact congrArg _ (up_nat i (by omega))), HA3, Go.Lib.hid (hy.out.below (pw_below_drewN (Below.refl _ _) _))⟩
    · have hd : decide (n < (x.f2.length : Int)) = false := decide_eq_false hlt
      have HV := Go.Lib.hid (KiP.mk (t := t) (x := x) (b := true) (by have h := hall.out; rw [List.take_of_length_le (by rw [List.length_range]; omega)] at h; exact h) hy.out.b)
      clear hlt hall hi hn
      go_wp2_with fail
      go_ret
      exact HV.out
end Go.Proofs.YtjhinklijopobaaDoor.Co
namespace Go.Proofs.YtjhinklijopobaaDoor.Co
open Go.RowKit Go.Proofs.YtjhinklijopobaaDoor.PCoreChecks Go.Proofs.YtjhinklijopobaaDoorW.PrintWords Go.Proofs.YtjhinklijopobaaDoorW.PrintLast Go.Proofs.YtjhinklijopobaaDoorW.PrintMore
set_option linter.unusedVariables false
set_option linter.unusedSimpArgs false

/-! ### What the document's checks of a node answer, as calls -/
theorem formR_calls (t : List S28) (flat : Bool) (x : S28) (hx : Small x) (A0 A2 A3 A4 : Option Addr) (c0 c2 c3 c4 : Nat) (w : World) (hr : Kd.C k28 w A0 t.length t) (hc : t.length ≤ c0) (h : Node w x A2 c2 A3 c3 A4 c4) :
    Calls Tryd.prog 76 #[.slice A0 t.length c0, nodeV x A2 c2 A3 c3 A4 c4, .bool flat] w fun e w' => e = .returned (.bool (formB flat x)) ∧ Below w.heap.size w w' := by
  obtain ⟨K, hK⟩ := form_f t flat x hx
  exact provenanceref2_goodForm.calls K A0 c0 t x.f0 x.f1 A2 c2 x.f2 A3 c3 x.f3 A4 c4 x.f4 flat _ w hr hc h.g2 h.l2 h.g3 h.l3 h.g4 h.l4 (hK K (Nat.le_refl _))
/-! ### What a node binds -/
def bindsOf (x : S28) : List Int := (if x.f0 = 2 ∨ x.f0 = 4 ∨ x.f0 = 5 then x.f2 else []) ++ x.f4.flatMap S86.f1
/-- The parts of a node within the limits. -/
structure Fit (x : S28) : Prop where
  b : x.f2.length ≤ 16
  a : x.f4.length ≤ 4096
  ab : ∀ y ∈ x.f4, y.f1.length ≤ 16
theorem flat16 (l : List S86) (h : ∀ y ∈ l, y.f1.length ≤ 16) : (l.flatMap S86.f1).length ≤ l.length * 16 := by
  induction l with
  | nil => simp
  | cons a l ih =>
    rw [List.flatMap_cons, List.length_append, List.length_cons]
    have h1 := h a (by simp)
    have h2 := ih (fun y hy => h y (by simp [hy]))
    omega
theorem binds_l0 (al : List S86) (ha : al.length ≤ 4096) (hab : ∀ y ∈ al, y.f1.length ≤ 16) : ∀ (m i : Nat) (acc : List Int), i + m = al.length → acc.length ≤ 16 + i * 16 →
    Evs (fun k => provenanceref2_Binds.l0 k acc al (al.length : Int) (i : Int)) (acc ++ (al.drop i).flatMap S86.f1) := by
  intro m
  induction m with
  | zero =>
    intro i acc hi hacc
    rw [List.drop_of_length_le (by omega), List.flatMap_nil, List.append_nil]
    refine Evs.now fun k => ?_
    simp only [provenanceref2_Binds.l0]
    rw [if_neg (by omega)]
  | succ m ih =>
    intro i acc hi hacc
    have hi' : i < al.length := by omega
    have h16 := hab _ (List.getElem_mem hi')
    rw [List.drop_eq_getElem_cons hi', List.flatMap_cons, ← List.append_assoc]
    refine Evs.step (ih (i + 1) (acc ++ (al[i]'hi').f1) (by omega) (by rw [List.length_append]; omega)) fun k => ?_
    simp only [provenanceref2_Binds.l0]
    rw [if_pos (by omega), if_pos (by omega), if_pos (by omega), rdA_nat al i hi', if_pos (by omega), up_nat i (by omega)]
theorem binds_f (x : S28) (h : Fit x) : Evs (fun k => provenanceref2_Binds.f k x.f0 x.f1 x.f2 x.f3 x.f4) (bindsOf x) := by
  obtain ⟨op, n, bs, ks, al⟩ := x
  obtain ⟨hb, ha, hab⟩ := h
  simp only at hb ha hab ⊢
  have e1 : ∀ k (b : Bool), provenanceref2_Binds.j0 (k + 1 + 1) [] b op n bs ks al = provenanceref2_Binds.l0 k (if b = true then bs else []) al al.length 0 := by
    intro k b
    simp only [provenanceref2_Binds.j0, provenanceref2_Binds.j1]
    cases b with
    | true => rw [if_pos rfl, if_pos rfl, if_pos (by simp; omega), List.nil_append]
    | false => rw [if_neg (by decide), if_neg (by decide)]
  have e2 : ∀ k, provenanceref2_Binds.f (k + 1 + 1) op n bs ks al = provenanceref2_Binds.l0 k (if op = 2 ∨ op = 4 ∨ op = 5 then bs else []) al al.length 0 := by
    intro k
    unfold provenanceref2_Binds.f
    simp only [e1]
    by_cases h2 : op = 2
    · rw [if_pos h2, if_pos trivial, if_pos (Or.inl h2)]
    · rw [if_neg h2]
      by_cases h4 : op = 4
      · rw [if_pos h4, if_pos trivial, if_pos (Or.inr (Or.inl h4))]
      · rw [if_neg h4]
        by_cases h5 : op = 5
        · subst h5; rfl
        · rw [if_neg (by simpa using h5), if_neg (by omega)]
  have h0 := binds_l0 al ha hab al.length 0 (if op = 2 ∨ op = 4 ∨ op = 5 then bs else []) (Nat.zero_add _) (by split <;> simp; omega)
  rw [List.drop_zero] at h0
  exact Evs.step2 h0 e2
/-- Binds answers a new row. -/
theorem bindsR_calls (x : S28) (hx : Fit x) (A2 A3 A4 : Option Addr) (c2 c3 c4 : Nat) (w : World) (h : Node w x A2 c2 A3 c3 A4 c4) :
    Calls Tryd.prog 30 #[nodeV x A2 c2 A3 c3 A4 c4] w fun e w' => ∃ v : Value, e = .returned v ∧ Kd.R (Kd.int .i64) 3 w' w.heap.size (fun _ => True) v (bindsOf x) ∧ Below w.heap.size w w' := by
  obtain ⟨K, hK⟩ := binds_f x hx
  exact provenanceref2_Binds.calls K x.f0 x.f1 A2 c2 x.f2 A3 c3 x.f3 A4 c4 x.f4 _ w h.g2 h.l2 h.g3 h.l3 h.g4 h.l4 (hK K (Nat.le_refl _))
end Go.Proofs.YtjhinklijopobaaDoor.Co
namespace Go.Proofs.YtjhinklijopobaaDoor.Co
open Go.RowKit Go.Proofs.YtjhinklijopobaaDoor.PCoreChecks Go.Proofs.YtjhinklijopobaaDoorW.PrintWords Go.Proofs.YtjhinklijopobaaDoorW.PrintLast Go.Proofs.YtjhinklijopobaaDoorW.PrintMore
set_option linter.unusedVariables false
set_option linter.unusedSimpArgs false

/-! ### What good nodes are like -/
theorem form_parts {flat : Bool} {x : S28} (h : formB flat x = true) : (kidsN x.f0 x.f1 x.f2.length x.f3.length x.f4.length).1 = (x.f3.length : Int) ∧ altsB x.f0 x.f4 = true ∧ bindsB x.f0 x.f2.length = true := by
  unfold formB shapeB at h
  simp only [Bool.and_eq_true, decide_eq_true_eq] at h
  exact ⟨h.2.1, h.2.2.2.1, h.2.2.2.2⟩
theorem form_alts {flat : Bool} {x : S28} (h : formB flat x = true) (h7 : x.f0 = 7 ∨ x.f0 = 13) : x.f3.length = x.f4.length + 1 := by
  have h1 := (form_parts h).1
  unfold kidsN at h1
  rw [if_neg (by omega), if_neg (by omega), if_neg (by omega), if_neg (by omega), if_neg (by omega), if_pos h7] at h1
  simp only at h1
  omega
theorem form_none {flat : Bool} {x : S28} (h : formB flat x = true) (h7 : ¬ (x.f0 = 7 ∨ x.f0 = 13)) : x.f4 = [] := by
  have h1 := (form_parts h).2.1
  unfold altsB at h1
  rw [if_neg h7] at h1
  exact List.eq_nil_of_length_eq_zero (of_decide_eq_true h1)
theorem form_rec {flat : Bool} {x : S28} (h : formB flat x = true) (h5 : x.f0 = 5) : x.f3.length = x.f2.length + 1 := by
  have h1 := (form_parts h).1
  unfold kidsN at h1
  rw [if_neg (by omega), if_neg (by omega), if_neg (by omega), if_neg (by omega), if_pos h5] at h1
  simp only at h1
  omega
theorem count_len : ∀ (n : Nat) (l : List Int), (∀ k ∈ l, 0 ≤ k ∧ k < (n : Int)) → (∀ k : Nat, k < n → l.count (k : Int) ≤ 1) → l.length ≤ n := by
  intro n
  induction n with
  | zero =>
    intro l h _
    cases l with
    | nil => simp
    | cons a l => have := h a (by simp); omega
  | succ n ih =>
    intro l h hc
    have h1 := ih (l.filter (fun k => !decide (k = (n : Int)))) (fun k hk => by
      have h2 := List.mem_filter.1 hk
      have h3 := h k h2.1
      have h4 : k ≠ (n : Int) := by simpa using h2.2
      omega) (fun k hk => Nat.le_trans (List.Sublist.count_le _ List.filter_sublist) (hc k (by omega)))
    have h2 : l.length = l.count (n : Int) + (l.filter (fun k => !decide (k = (n : Int)))).length := by
      clear h hc h1
      induction l with
      | nil => rfl
      | cons a l ih2 =>
        by_cases e : a = (n : Int)
        · subst e; simp; omega
        · rw [List.count_cons_of_ne e, List.filter_cons_of_pos (by simpa using e)]; simp; omega
    have h3 := hc n (by omega)
    omega
theorem kids_len {t : List S28} (h : treeB t = true) {i : Nat} (hi : i < t.length) : (t[i]'hi).f3.length ≤ i := by
  obtain ⟨h0, hr, hone⟩ := treeB_parts h
  refine count_len i _ (fun k hk => badK_mem (rB_at hr i hi) hk) (fun k hk => ?_)
  have h1 := hone k (by omega)
  have e : kidsT t = (t.take i).flatMap S28.f3 ++ ((t[i]'hi).f3 ++ (t.drop (i + 1)).flatMap S28.f3) := by
    unfold kidsT
    conv => lhs; rw [← List.take_append_drop i t, List.drop_eq_getElem_cons hi]
    rw [List.flatMap_append, List.flatMap_cons]
  rw [e, List.count_append, List.count_append] at h1
  omega
theorem num_parts {x : S28} (h : numErr x = 0) : x.f2.length ≤ 16 ∧ longest x.f4 0 ≤ 16 := by
  unfold numErr at h
  split at h
  · split at h
    · split at h
      · split at h
        · omega
        · rename_i h2
          unfold largeB at h2
          simp only [Bool.or_eq_true, not_or, decide_eq_true_eq] at h2
          exact ⟨by omega, by omega⟩
      · omega
    · omega
  · omega
theorem longest_ge : ∀ (l : List S86) (m : Int), m ≤ longest l m ∧ ∀ y ∈ l, (y.f1.length : Int) ≤ longest l m
  | [], m => ⟨Int.le_refl _, fun y hy => by cases hy⟩
  | a :: l, m => by
    obtain ⟨h1, h2⟩ := longest_ge l (mx m (a.f1.length : Int))
    have e : longest (a :: l) m = longest l (mx m (a.f1.length : Int)) := rfl
    rw [e]
    have h3 : m ≤ mx m (a.f1.length : Int) ∧ (a.f1.length : Int) ≤ mx m (a.f1.length : Int) := by unfold mx; split <;> omega
    refine ⟨by omega, fun y hy => ?_⟩
    rcases List.mem_cons.1 hy with rfl | hy
    · omega
    · exact h2 y hy
theorem fit_of {t : List S28} {flat : Bool} (h : treeB t = true) (hn : t.length ≤ 4096) {x : S28} (hx : x ∈ t) (hf : formB flat x = true) (he : numErr x = 0) : Fit x := by
  obtain ⟨h1, h2⟩ := num_parts he
  obtain ⟨i, hi, rfl⟩ := List.mem_iff_getElem.1 hx
  refine ⟨h1, ?_, fun y hy => ?_⟩
  · by_cases h7 : (t[i]'hi).f0 = 7 ∨ (t[i]'hi).f0 = 13
    · have := form_alts hf h7
      have := kids_len h hi
      omega
    · rw [form_none hf h7]; simp
  · have := (longest_ge (t[i]'hi).f4 0).2 y hy
    omega
theorem rec_of {t : List S28} {flat : Bool} (h : treeB t = true) {x : S28} (hx : x ∈ t) (hf : formB flat x = true) : x.f0 = 5 → ∀ i : Nat, i < x.f2.length → (i < x.f3.length ∧ 0 ≤ rd x.f3 i ∧ rd x.f3 i < (t.length : Int)) := by
  intro h5 i hi
  have h1 := form_rec hf h5
  have hi2 : i < x.f3.length := by omega
  obtain ⟨j, hj, rfl⟩ := List.mem_iff_getElem.1 hx
  obtain ⟨h0, hr, hone⟩ := treeB_parts h
  rw [rd_nat _ i hi2]
  have := badK_mem (rB_at hr j hj) (List.getElem_mem hi2)
  exact ⟨hi2, this.1, by omega⟩
/-- The error of a node. -/
def nodeErr (flat : Bool) (t : List S28) (x : S28) : Int := if formB flat x = true then (if numErr x = 0 then (if kidsB t x = true then 0 else 3) else numErr x) else 3
/-- The first error. -/
def firstE (f : S28 → Int) : List S28 → Int
  | [] => 0
  | x :: l => if f x = 0 then firstE f l else f x
theorem firstE_drop (f : S28 → Int) (t : List S28) (i : Nat) (h : i < t.length) : firstE f (t.drop i) = if f (t[i]'h) = 0 then firstE f (t.drop (i + 1)) else f (t[i]'h) := by
  rw [List.drop_eq_getElem_cons h]; rfl
theorem firstE_all (f : S28 → Int) : ∀ t : List S28, firstE f t = 0 → ∀ x ∈ t, f x = 0
  | [], _, x, hx => by cases hx
  | a :: t, h, x, hx => by
    have e : firstE f (a :: t) = if f a = 0 then firstE f t else f a := rfl
    rw [e] at h
    split at h
    · rename_i h0
      rcases List.mem_cons.1 hx with rfl | hx
      · exact h0
      · exact firstE_all f t h x hx
    · contradiction
theorem nodeErr_ok {flat : Bool} {t : List S28} {x : S28} (h : nodeErr flat t x = 0) : formB flat x = true ∧ numErr x = 0 ∧ kidsB t x = true := by
  unfold nodeErr at h
  split at h
  · rename_i h1
    split at h
    · rename_i h2
      split at h
      · rename_i h3
        exact ⟨h1, h2, h3⟩
      · omega
    · contradiction
  · omega
/-! ### The whole check -/
def allB (params : List Int) (t : List S28) : List Int := params ++ t.flatMap bindsOf
def dupB (l : List Int) : Bool := (List.range l.length).any fun i => decide (rd l (i : Nat) ∈ l.take i)
/-- A variable that nothing binds. -/
def badName (t : List S28) (params : List Int) : Prop := ∃ (P : List Int) (i : Nat), Par t P ∧ i < t.length ∧ (rd_T28 t (i : Int)).f0 = 0 ∧ Bd t P (rd_T28 t (i : Int)).f1 i (-1) ∧ (rd_T28 t (i : Int)).f1 ∉ params
open Classical in
/-- The error of an expression with parameters. -/
noncomputable def bodyErr (t : List S28) (params : List Int) (flat : Bool) : Int :=
  if 4096 < t.length then 2 else if treeB t = true then (if 400 < heightT t then 2 else if firstE (nodeErr flat t) t = 0 then (if dupB (allB params t) = true then 7 else if badName t params then 6 else 0) else firstE (nodeErr flat t) t) else 3
/-- A tree has one row of parents. -/
theorem Par.one {t : List S28} {P Q : List Int} (h : Par t P) (h2 : Par t Q) : P = Q := by
  apply List.ext_getElem?
  intro k
  by_cases hk : k < t.length
  · by_cases e : k = t.length - 1
    · subst e; rw [h.root, h2.root]
    · obtain ⟨i, hi, a1, a2, a3⟩ := h.up k (by omega)
      obtain ⟨j, hj, b1, b2, b3⟩ := h2.up k (by omega)
      have := one_parent h.tree hi hj a3 b3
      rw [a1, b1, this]
  · rw [List.getElem?_eq_none (by rw [h.len]; omega), List.getElem?_eq_none (by rw [h2.len]; omega)]
theorem Bd.one {t : List S28} {P : List Int} {n : Int} {c : Nat} {r : Int} (h : Bd t P n c r) : ∀ s, Bd t P n c s → r = s := by
  induction h with
  | stop c hc =>
    intro s hs
    cases hs with
    | stop _ _ => rfl
    | hit _ p h2 _ => rw [hc] at h2; have := Option.some.inj h2; omega
    | up _ p _ h2 _ _ => rw [hc] at h2; have := Option.some.inj h2; omega
  | hit c p hc hh =>
    intro s hs
    cases hs with
    | stop _ h2 => rw [hc] at h2; have := Option.some.inj h2; omega
    | hit _ q h2 _ => rw [hc] at h2; exact Option.some.inj h2
    | up _ q _ h2 h3 _ =>
      rw [hc] at h2
      have e : p = q := by have := Option.some.inj h2; omega
      subst e
      rw [hh] at h3; cases h3
  | up c p r hc hh _ ih =>
    intro s hs
    cases hs with
    | stop _ h2 => rw [hc] at h2; have := Option.some.inj h2; omega
    | hit _ q h2 h3 =>
      rw [hc] at h2
      have e : p = q := by have := Option.some.inj h2; omega
      subst e
      rw [hh] at h3; cases h3
    | up _ q _ h2 h3 h4 =>
      rw [hc] at h2
      have e : p = q := by have := Option.some.inj h2; omega
      subst e
      exact ih _ h4
end Go.Proofs.YtjhinklijopobaaDoor.Co
