import Derived.Test.YtjhinklijopobaaDoorGCC2
import Derived.Test.YtjhinklijopobaaDoorGCC1
import Derived.Test.YtjhinklijopobaaDoorPCoreChecksx11
namespace Go.Proofs.YtjhinklijopobaaDoor.Co
open Go.RowKit Go.Proofs.YtjhinklijopobaaDoor.PCoreChecks Go.Proofs.YtjhinklijopobaaDoorW.PrintWords Go.Proofs.YtjhinklijopobaaDoorW.PrintLast Go.Proofs.YtjhinklijopobaaDoorW.PrintMore
set_option linter.unusedVariables false
set_option linter.unusedSimpArgs false

/-! ### goodAlts answers altsB -/
theorem AlP.mk {x : S28} {w w' : World} {b : Bool} (h : altsB x.f0 x.f4 = b) (hb : Below w.heap.size w w') : AlP x w (.returned (.bool b)) w' := ⟨by rw [h], hb⟩
theorem alts_bad {x : S28} (ho : x.f0 = 7 ∨ x.f0 = 13) {i : Nat} (hi : i < x.f4.length) (h : altOk x.f0 x.f4 i = false) : altsB x.f0 x.f4 = false := by
  unfold altsB
  rw [if_pos ho, List.all_eq_false.2 ⟨i, List.mem_range.2 hi, by rw [h]; decide⟩]; rfl
theorem alts_end {x : S28} (ho : x.f0 = 7 ∨ x.f0 = 13) (h : (List.range x.f4.length).all (altOk x.f0 x.f4) = true) : altsB x.f0 x.f4 = (decide (x.f0 = 7) || decide ((0 : Int) < (x.f4.length : Int))) := by
  unfold altsB
  rw [if_pos ho, h, Bool.true_and, decide_eq_decide.2 (show 0 < x.f4.length ↔ (0 : Int) < (x.f4.length : Int) by omega)]
theorem altOk_int (op : Int) (al : List S86) (i : Nat) (n : Int) (hn : n = (i : Int)) : altOk op al i = if (al.take i).any (fun b => decide (b.f0 = (rd_T86 al n).f0)) = true then false else if (rd_T86 al n).f0 < -1 then false
    else if op = 7 ∧ (rd_T86 al n).f0 = -1 ∧ (n + 1 < (al.length : Int) ∨ ((rd_T86 al n).f1.length : Int) ≠ 0) then false
    else if op = 13 ∧ ((n = 0 ∧ ((rd_T86 al n).f0 ≠ -1 ∨ ((rd_T86 al n).f1.length : Int) ≠ 1)) ∨ (0 < n ∧ ((rd_T86 al n).f0 < 0 ∨ ((rd_T86 al n).f1.length : Int) ≠ 2))) then false else true := by
  rw [hn]
  unfold altOk
  generalize rd_T86 al (i : Int) = a
  have c1 : (op = 7 ∧ a.f0 = -1 ∧ (i + 1 < al.length ∨ a.f1.length ≠ 0)) ↔ (op = 7 ∧ a.f0 = -1 ∧ ((i : Int) + 1 < (al.length : Int) ∨ (a.f1.length : Int) ≠ 0)) := by omega
  have c2 : (op = 13 ∧ ((i = 0 ∧ (a.f0 ≠ -1 ∨ a.f1.length ≠ 1)) ∨ (0 < i ∧ (a.f0 < 0 ∨ a.f1.length ≠ 2)))) ↔ (op = 13 ∧ (((i : Int) = 0 ∧ (a.f0 ≠ -1 ∨ (a.f1.length : Int) ≠ 1)) ∨ (0 < (i : Int) ∧ (a.f0 < 0 ∨ (a.f1.length : Int) ≠ 2)))) := by omega
  simp only [c1, c2]
theorem any_snoc {α : Type} (p : α → Bool) (l : List α) (i : Nat) (h : i < l.length) (h0 : (l.take i).any p = false) (h1 : p (l[i]'h) = false) : (l.take (i + 1)).any p = false := by
  rw [List.take_succ_eq_append_getElem h, List.any_append, h0]; simp [h1]
theorem any_hit {α : Type} (p : α → Bool) (l : List α) (k i : Nat) (hk : k < l.length) (hki : k < i) (h1 : p (l[k]'hk) = true) : (l.take i).any p = true := by
  rw [List.any_eq_true]
  refine ⟨l[k]'hk, ?_, h1⟩
  rw [List.mem_iff_getElem]
  exact ⟨k, by rw [List.length_take]; omega, by rw [List.getElem_take]⟩

set_option maxHeartbeats 16000000 in
set_option maxRecDepth 100000 in
theorem altsR_7 (x : S28) (hx : Small x) (ho : x.f0 = 7) (A2 A3 A4 : Option Addr) (c2 c3 c4 : Nat) (w : World) (h : Node w x A2 c2 A3 c3 A4 c4) :
    Calls Tryd.prog 105 #[nodeV x A2 c2 A3 c3 A4 c4] w (AlP x w) := by
  have HN := Go.Lib.hid h
  have HS := Go.Lib.hid hx
  have HY0 := Go.Lib.hid (Yx.made w x A2 A3 A4 c2 c3 c4)
  have ha9 : (x.f4.length : Int) ≤ 17592186044416 := by have := hx.a; omega
  obtain ⟨x0, x1, x2, x3, x4⟩ := HY0.out.cells
  clear h hx
  have HO := Go.Lib.hid ho
  have o1 : (x.f0 == 7) = true := by rw [ho]; decide
  have o2 : (x.f0 != 7) = false := by rw [ho]; decide
  have o3 : (x.f0 == 13) = false := by rw [ho]; decide
  have o4 : (x.f0 != 13) = true := by rw [ho]; decide
  clear ho
  go_enter Tryd.func105, Tryd.ntmps105
  go_wp2_with fail
  go_loopg [21] x.f4.length (fun g_ v_ w' => ∃ i : Nat, Hid (i + g_ = x.f4.length) ∧ v_ = .int .i64 i ∧ Hid (((List.range x.f4.length).take i).all (altOk x.f0 x.f4) = true) ∧ Hid (Yx w x A2 c2 A3 c3 A4 c4 w'))
  case atStart => exact ⟨0, Go.Lib.hid (by omega), rfl, Go.Lib.hid rfl, HY0⟩
  case round =>
    clear HY0 x0 x1 x2 x3 x4
    obtain ⟨i, hi, rfl, hall, hy⟩ := hrel
    obtain ⟨wo, hwo⟩ : ∃ wo : World, wo = wr := ⟨_, rfl⟩
    subst hwo
    obtain ⟨ga, hga⟩ : ∃ ga : Nat, ga = gk := ⟨_, rfl⟩
    subst hga
    obtain ⟨x0, x1, x2, x3, x4⟩ := hy.out.cells
    obtain ⟨n, hn⟩ : ∃ n : Int, n = (i : Int) := ⟨_, rfl⟩
    rw [← hn]
    have HNI := Go.Lib.hid hn
    by_cases hlt : n < (x.f4.length : Int)
    · have hlti : i < x.f4.length := by omega
      have hi0 : 0 ≤ n := by omega
      have HI := Go.Lib.hid hlti
      have HBAD := Go.Lib.hid (fun h => alts_bad (Or.inl HO.out) hlti h)
      have HSN := Go.Lib.hid (fun h => all_snoc (altOk x.f0 x.f4) (List.range x.f4.length) i (by rw [List.length_range]; exact hlti) hall.out (by rw [List.getElem_range]; exact h))
      have HK := Go.Lib.hid (altOk_int x.f0 x.f4 i n hn)
      have dlt : decide (n < (x.f4.length : Int)) = true := decide_eq_true hlt
      have di0 : decide (0 ≤ n) = true := decide_eq_true hi0
      obtain ⟨n1, hn1⟩ : ∃ n1 : Int, n1 = n + 1 := ⟨_, rfl⟩
      have HN1 := Go.Lib.hid (show ((i + 1 : Nat) : Int) = n1 by omega)
      have hw1 : IntKind.i64.wrap (n + 1) = n1 := by rw [hn1]; exact (i64_w _).trans (wrap_small (by omega) (by omega))
      rw [← hn1] at HK
      obtain ⟨ad, A1, c1, e_, p0, p1, q1, q2⟩ := at_T86 HN.out.g4 n hi0 hlt
      cases e_
      replace p0 := pw_cell_below hy.out.b p0
      replace p1 := pw_cell_below hy.out.b p1
      generalize rd_T86 x.f4 n = a at p0 p1 q1 q2 HK
      have HYA := Go.Lib.hid (hy.out.below (below_alloc (Below.refl _ _) (.cells #[.int .i64 a.f0, .slice A1 a.f1.length c1] 86)))
      have HXA := Go.Lib.hid (show (wo.alloc (.cells #[.int .i64 a.f0, .slice A1 a.f1.length c1] 86)).heap[wo.heap.size]? = some (.cells #[.int .i64 a.f0, .slice A1 a.f1.length c1] 86 (0, 0)) from blk_new _ _)
      obtain ⟨wa, hwa⟩ : ∃ wa, wa = wo.alloc (.cells #[.int .i64 a.f0, .slice A1 a.f1.length c1] 86) := ⟨_, rfl⟩
      rw [← hwa] at HYA HXA
      have HWA := Go.Lib.hid hwa
      have hi0' := eq_true hi0
      have hlt' := eq_true hlt
      clear hlti hn hi0 hlt q1 q2 hwa hy hn1
      go_upto_region 6 with fail
      rw [← HWA.out]
      clear p0 p1 x0 x1 x2 x3 x4
      go_wp2_with fail
      go_loopg [27] i (fun g_ v_ w' => ∃ k : Nat, Hid (k + g_ = i) ∧ v_ = .int .i64 k ∧ Hid ((x.f4.take k).any (fun b => decide (b.f0 = a.f0)) = false) ∧ Hid (Below wa.heap.size wa w'))
      case atStart => exact ⟨0, Go.Lib.hid (by omega), rfl, Go.Lib.hid rfl, Go.Lib.hid (Below.refl _ _)⟩
      case round =>
        obtain ⟨k, hk, rfl, hno, hb⟩ := hrel
        obtain ⟨wi, hwi⟩ : ∃ wi : World, wi = wr := ⟨_, rfl⟩
        subst hwi
        have HYB := Go.Lib.hid (HYA.out.below hb.out)
        have hxb := blk_below HXA.out hb.out
        have y0 : wi.cell? ⟨wo.heap.size, 0, none⟩ = some (.int .i64 a.f0) := (blk_cell hxb 0).trans rfl
        have y1 : wi.cell? ⟨wo.heap.size, 1, none⟩ = some (.slice A1 a.f1.length c1) := (blk_cell hxb 1).trans rfl
        have z5 := blk_frozen hxb 0
        have z6 := blk_frozen hxb 1
        obtain ⟨x0, x1, x2, x3, x4⟩ := HYB.out.cells
        have z0 := blk_frozen HYB.out.bx 0
        have z1 := blk_frozen HYB.out.bx 1
        have z2 := blk_frozen HYB.out.bx 2
        have z3 := blk_frozen HYB.out.bx 3
        have z4 := blk_frozen HYB.out.bx 4
        obtain ⟨m, hm⟩ : ∃ m : Int, m = (k : Int) := ⟨_, rfl⟩
        rw [← hm]
        have HMK := Go.Lib.hid hm
        by_cases hlt : m < n
        · have hki : k < i := by have := HNI.out; omega
          have hkl : k < x.f4.length := by have := HI.out; omega
          have hm0 : 0 ≤ m := by omega
          have hml : m < (x.f4.length : Int) := by omega
          have HKI := Go.Lib.hid hki
          have HHIT := Go.Lib.hid (fun h => any_hit (fun b : S86 => decide (b.f0 = a.f0)) x.f4 k i hkl hki h)
          have HMISS := Go.Lib.hid (fun h => any_snoc (fun b : S86 => decide (b.f0 = a.f0)) x.f4 k hkl hno.out h)
          obtain ⟨m1, hm1⟩ : ∃ m1 : Int, m1 = m + 1 := ⟨_, rfl⟩
          have HM1 := Go.Lib.hid (show ((k + 1 : Nat) : Int) = m1 by omega)
          have hwm : IntKind.i64.wrap (m + 1) = m1 := by rw [hm1]; exact (i64_w _).trans (wrap_small (by omega) (by omega))
          obtain ⟨ad2, B1, d1, e_, u0, u1, -, -⟩ := at_T86 (Kd.C_below HN.out.g4 HYB.out.b) m hm0 hml
          cases e_
          have hrd : rd_T86 x.f4 m = x.f4[k]'hkl := by rw [hm, rdA_nat x.f4 k hkl]
          rw [hrd] at u0 u1
          generalize x.f4[k]'hkl = b at u0 u1 HHIT HMISS
          have dml : decide (m < (x.f4.length : Int)) = true := decide_eq_true hml
          have dm0 : decide (0 ≤ m) = true := decide_eq_true hm0
          have dmn : decide (m < n) = true := decide_eq_true hlt
          replace hm0 := eq_true hm0
          replace hml := eq_true hml
          clear hki hkl hrd hm hlt hm1 u1 hxb
          by_cases ht : b.f0 = a.f0
          · have t1 : (b.f0 == a.f0) = true := beq_iff_eq.2 ht
            have HV := Go.Lib.hid (HBAD.out (by rw [HK.out, HHIT.out (decide_eq_true ht)]; rfl))
            clear ht HK
            go_wp2_with fail
            go_quiet (fail)
            go_wp2_with fail
            go_ret
            exact AlP.mk HV.out (HYB.out.below (pw_below_drewN (Below.refl _ _) _)).b
          · have t1 : (b.f0 == a.f0) = false := beq_eq_false_iff_ne.2 ht
            have HA2 := Go.Lib.hid (HMISS.out (decide_eq_false ht))
            clear ht
            go_wp2_with fail
            go_quiet (fail)
            go_wp2_with fail
            go_roundg (gk - 1)
            case measure => have := hk.out; have := HKI.out; omega
            case rel => exact ⟨k + 1, Go.Lib.hid (by have := hk.out; have := HKI.out; omega), (by rw [HM1.out]), HA2, Go.Lib.hid (below_step hb.out (pw_below_drewN (Below.refl _ _) _))⟩
        · have dmn : decide (m < n) = false := decide_eq_false hlt
          have HNO := Go.Lib.hid (show (x.f4.take i).any (fun b => decide (b.f0 = a.f0)) = false by
            have h1 : k = i := by have := hk.out; have := HNI.out; omega
            have h := hno.out
            rw [h1] at h
            exact h)
          replace HK := Go.Lib.hid (HK.out.trans (by rw [HNO.out, if_neg (by decide)]))
          clear hlt hm hxb hno
          by_cases hA : a.f0 < -1
          · have d1 : decide (a.f0 < -1) = true := decide_eq_true hA
            have HV := Go.Lib.hid (AlP.mk (HBAD.out (by rw [HK.out, if_pos hA])) HYB.out.b)
            clear hA HK
            go_wp2_with fail
            go_ret
            exact HV.out
          · have d1 : decide (a.f0 < -1) = false := decide_eq_false hA
            replace HK := Go.Lib.hid (HK.out.trans (by rw [if_neg hA]))
            clear hA
            replace HK := Go.Lib.hid (show altOk x.f0 x.f4 i = if a.f0 = -1 ∧ (n1 < (x.f4.length : Int) ∨ (a.f1.length : Int) ≠ 0) then false else true by
              rw [HK.out, HO.out]; simp)
            by_cases hB : a.f0 = -1
            · have e1 : (a.f0 == -1) = true := beq_iff_eq.2 hB
              by_cases hC : n1 < (x.f4.length : Int)
              · have e2 : decide (n1 < (x.f4.length : Int)) = true := decide_eq_true hC
                have HV := Go.Lib.hid (AlP.mk (HBAD.out (by rw [HK.out, if_pos (by omega)])) HYB.out.b)
                clear HK
                go_wp2_with fail
                go_ret
                exact HV.out
              · have e2 : decide (n1 < (x.f4.length : Int)) = false := decide_eq_false hC
                by_cases hD : (a.f1.length : Int) = 0
                · have e3 : ((a.f1.length : Int) == 0) = true := beq_iff_eq.2 hD
                  have e4 : ((a.f1.length : Int) != 0) = false := by rw [bne, e3]; rfl
                  have HA3 := Go.Lib.hid (HSN.out (by rw [HK.out, if_neg (by omega)]))
                  clear HK hD
                  go_wp2_with fail
                  go_roundg (ga - 1)
                  case measure => have := hi.out; have := HI.out; omega
                  case rel => exact ⟨i + 1, Go.Lib.hid (by have := hi.out; have := HI.out; omega), (by rw [HN1.out]), HA3, HYB⟩
                · have e3 : ((a.f1.length : Int) == 0) = false := beq_eq_false_iff_ne.2 hD
                  have e4 : ((a.f1.length : Int) != 0) = true := by rw [bne, e3]; rfl
                  have HV := Go.Lib.hid (AlP.mk (HBAD.out (by rw [HK.out, if_pos (by omega)])) HYB.out.b)
                  clear HK hD
                  go_wp2_with fail
                  go_ret
                  exact HV.out
            · have e1 : (a.f0 == -1) = false := beq_eq_false_iff_ne.2 hB
              have HA3 := Go.Lib.hid (HSN.out (by rw [HK.out, if_neg (by omega)]))
              clear HK hB
              go_wp2_with fail
              go_roundg (ga - 1)
              case measure => have := hi.out; have := HI.out; omega
              case rel => exact ⟨i + 1, Go.Lib.hid (by have := hi.out; have := HI.out; omega), (by rw [HN1.out]), HA3, HYB⟩
    · have hd : decide (n < (x.f4.length : Int)) = false := decide_eq_false hlt
      have HE := Go.Lib.hid (alts_end (Or.inl HO.out) (by have h := hall.out; rw [List.take_of_length_le (by rw [List.length_range]; omega)] at h; exact h))
      clear hlt hall hi hn
      go_wp2_with fail
      go_ret
      refine AlP.mk ?_ hy.out.b
      rw [HE.out, HO.out]
      simp

set_option maxHeartbeats 16000000 in
set_option maxRecDepth 100000 in
theorem altsR_13 (x : S28) (hx : Small x) (ho : x.f0 = 13) (A2 A3 A4 : Option Addr) (c2 c3 c4 : Nat) (w : World) (h : Node w x A2 c2 A3 c3 A4 c4) :
    Calls Tryd.prog 105 #[nodeV x A2 c2 A3 c3 A4 c4] w (AlP x w) := by
  have HN := Go.Lib.hid h
  have HS := Go.Lib.hid hx
  have HY0 := Go.Lib.hid (Yx.made w x A2 A3 A4 c2 c3 c4)
  have ha9 : (x.f4.length : Int) ≤ 17592186044416 := by have := hx.a; omega
  obtain ⟨x0, x1, x2, x3, x4⟩ := HY0.out.cells
  clear h hx
  have HO := Go.Lib.hid ho
  have o1 : (x.f0 == 7) = false := by rw [ho]; decide
  have o2 : (x.f0 != 7) = true := by rw [ho]; decide
  have o3 : (x.f0 == 13) = true := by rw [ho]; decide
  have o4 : (x.f0 != 13) = false := by rw [ho]; decide
  clear ho
  go_enter Tryd.func105, Tryd.ntmps105
  go_wp2_with fail
  go_loopg [21] x.f4.length (fun g_ v_ w' => ∃ i : Nat, Hid (i + g_ = x.f4.length) ∧ v_ = .int .i64 i ∧ Hid (((List.range x.f4.length).take i).all (altOk x.f0 x.f4) = true) ∧ Hid (Yx w x A2 c2 A3 c3 A4 c4 w'))
  case atStart => exact ⟨0, Go.Lib.hid (by omega), rfl, Go.Lib.hid rfl, HY0⟩
  case round =>
    clear HY0 x0 x1 x2 x3 x4
    obtain ⟨i, hi, rfl, hall, hy⟩ := hrel
    obtain ⟨wo, hwo⟩ : ∃ wo : World, wo = wr := ⟨_, rfl⟩
    subst hwo
    obtain ⟨ga, hga⟩ : ∃ ga : Nat, ga = gk := ⟨_, rfl⟩
    subst hga
    obtain ⟨x0, x1, x2, x3, x4⟩ := hy.out.cells
    obtain ⟨n, hn⟩ : ∃ n : Int, n = (i : Int) := ⟨_, rfl⟩
    rw [← hn]
    have HNI := Go.Lib.hid hn
    by_cases hlt : n < (x.f4.length : Int)
    · have hlti : i < x.f4.length := by omega
      have hi0 : 0 ≤ n := by omega
      have HI := Go.Lib.hid hlti
      have HBAD := Go.Lib.hid (fun h => alts_bad (Or.inr HO.out) hlti h)
      have HSN := Go.Lib.hid (fun h => all_snoc (altOk x.f0 x.f4) (List.range x.f4.length) i (by rw [List.length_range]; exact hlti) hall.out (by rw [List.getElem_range]; exact h))
      have HK := Go.Lib.hid (altOk_int x.f0 x.f4 i n hn)
      have dlt : decide (n < (x.f4.length : Int)) = true := decide_eq_true hlt
      have di0 : decide (0 ≤ n) = true := decide_eq_true hi0
      obtain ⟨n1, hn1⟩ : ∃ n1 : Int, n1 = n + 1 := ⟨_, rfl⟩
      have HN1 := Go.Lib.hid (show ((i + 1 : Nat) : Int) = n1 by omega)
      have hw1 : IntKind.i64.wrap (n + 1) = n1 := by rw [hn1]; exact (i64_w _).trans (wrap_small (by omega) (by omega))
      rw [← hn1] at HK
      obtain ⟨ad, A1, c1, e_, p0, p1, q1, q2⟩ := at_T86 HN.out.g4 n hi0 hlt
      cases e_
      replace p0 := pw_cell_below hy.out.b p0
      replace p1 := pw_cell_below hy.out.b p1
      generalize rd_T86 x.f4 n = a at p0 p1 q1 q2 HK
      have HYA := Go.Lib.hid (hy.out.below (below_alloc (Below.refl _ _) (.cells #[.int .i64 a.f0, .slice A1 a.f1.length c1] 86)))
      have HXA := Go.Lib.hid (show (wo.alloc (.cells #[.int .i64 a.f0, .slice A1 a.f1.length c1] 86)).heap[wo.heap.size]? = some (.cells #[.int .i64 a.f0, .slice A1 a.f1.length c1] 86 (0, 0)) from blk_new _ _)
      obtain ⟨wa, hwa⟩ : ∃ wa, wa = wo.alloc (.cells #[.int .i64 a.f0, .slice A1 a.f1.length c1] 86) := ⟨_, rfl⟩
      rw [← hwa] at HYA HXA
      have HWA := Go.Lib.hid hwa
      have hi0' := eq_true hi0
      have hlt' := eq_true hlt
      clear hlti hn hi0 hlt q1 q2 hwa hy hn1
      go_upto_region 6 with fail
      rw [← HWA.out]
      clear p0 p1 x0 x1 x2 x3 x4
      go_wp2_with fail
      go_loopg [27] i (fun g_ v_ w' => ∃ k : Nat, Hid (k + g_ = i) ∧ v_ = .int .i64 k ∧ Hid ((x.f4.take k).any (fun b => decide (b.f0 = a.f0)) = false) ∧ Hid (Below wa.heap.size wa w'))
      case atStart => exact ⟨0, Go.Lib.hid (by omega), rfl, Go.Lib.hid rfl, Go.Lib.hid (Below.refl _ _)⟩
      case round =>
        obtain ⟨k, hk, rfl, hno, hb⟩ := hrel
        obtain ⟨wi, hwi⟩ : ∃ wi : World, wi = wr := ⟨_, rfl⟩
        subst hwi
        have HYB := Go.Lib.hid (HYA.out.below hb.out)
        have hxb := blk_below HXA.out hb.out
        have y0 : wi.cell? ⟨wo.heap.size, 0, none⟩ = some (.int .i64 a.f0) := (blk_cell hxb 0).trans rfl
        have y1 : wi.cell? ⟨wo.heap.size, 1, none⟩ = some (.slice A1 a.f1.length c1) := (blk_cell hxb 1).trans rfl
        have z5 := blk_frozen hxb 0
        have z6 := blk_frozen hxb 1
        obtain ⟨x0, x1, x2, x3, x4⟩ := HYB.out.cells
        have z0 := blk_frozen HYB.out.bx 0
        have z1 := blk_frozen HYB.out.bx 1
        have z2 := blk_frozen HYB.out.bx 2
        have z3 := blk_frozen HYB.out.bx 3
        have z4 := blk_frozen HYB.out.bx 4
        obtain ⟨m, hm⟩ : ∃ m : Int, m = (k : Int) := ⟨_, rfl⟩
        rw [← hm]
        have HMK := Go.Lib.hid hm
        by_cases hlt : m < n
        · have hki : k < i := by have := HNI.out; omega
          have hkl : k < x.f4.length := by have := HI.out; omega
          have hm0 : 0 ≤ m := by omega
          have hml : m < (x.f4.length : Int) := by omega
          have HKI := Go.Lib.hid hki
          have HHIT := Go.Lib.hid (fun h => any_hit (fun b : S86 => decide (b.f0 = a.f0)) x.f4 k i hkl hki h)
          have HMISS := Go.Lib.hid (fun h => any_snoc (fun b : S86 => decide (b.f0 = a.f0)) x.f4 k hkl hno.out h)
          obtain ⟨m1, hm1⟩ : ∃ m1 : Int, m1 = m + 1 := ⟨_, rfl⟩
          have HM1 := Go.Lib.hid (show ((k + 1 : Nat) : Int) = m1 by omega)
          have hwm : IntKind.i64.wrap (m + 1) = m1 := by rw [hm1]; exact (i64_w _).trans (wrap_small (by omega) (by omega))
          obtain ⟨ad2, B1, d1, e_, u0, u1, -, -⟩ := at_T86 (Kd.C_below HN.out.g4 HYB.out.b) m hm0 hml
          cases e_
          have hrd : rd_T86 x.f4 m = x.f4[k]'hkl := by rw [hm, rdA_nat x.f4 k hkl]
          rw [hrd] at u0 u1
          generalize x.f4[k]'hkl = b at u0 u1 HHIT HMISS
          have dml : decide (m < (x.f4.length : Int)) = true := decide_eq_true hml
          have dm0 : decide (0 ≤ m) = true := decide_eq_true hm0
          have dmn : decide (m < n) = true := decide_eq_true hlt
          replace hm0 := eq_true hm0
          replace hml := eq_true hml
          clear hki hkl hrd hm hlt hm1 u1 hxb
          by_cases ht : b.f0 = a.f0
          · have t1 : (b.f0 == a.f0) = true := beq_iff_eq.2 ht
            have HV := Go.Lib.hid (HBAD.out (by rw [HK.out, HHIT.out (decide_eq_true ht)]; rfl))
            clear ht HK
            go_wp2_with fail
            go_quiet (fail)
            go_wp2_with fail
            go_ret
            exact AlP.mk HV.out (HYB.out.below (pw_below_drewN (Below.refl _ _) _)).b
          · have t1 : (b.f0 == a.f0) = false := beq_eq_false_iff_ne.2 ht
            have HA2 := Go.Lib.hid (HMISS.out (decide_eq_false ht))
            clear ht
            go_wp2_with fail
            go_quiet (fail)
            go_wp2_with fail
            go_roundg (gk - 1)
            case measure => have := hk.out; have := HKI.out; omega
            case rel => exact ⟨k + 1, Go.Lib.hid (by have := hk.out; have := HKI.out; omega), (by rw [HM1.out]), HA2, Go.Lib.hid (below_step hb.out (pw_below_drewN (Below.refl _ _) _))⟩
        · have dmn : decide (m < n) = false := decide_eq_false hlt
          have HNO := Go.Lib.hid (show (x.f4.take i).any (fun b => decide (b.f0 = a.f0)) = false by
            have h1 : k = i := by have := hk.out; have := HNI.out; omega
            have h := hno.out
            rw [h1] at h
            exact h)
          replace HK := Go.Lib.hid (HK.out.trans (by rw [HNO.out, if_neg (by decide)]))
          clear hlt hm hxb hno
          by_cases hA : a.f0 < -1
          · have d1 : decide (a.f0 < -1) = true := decide_eq_true hA
            have HV := Go.Lib.hid (AlP.mk (HBAD.out (by rw [HK.out, if_pos hA])) HYB.out.b)
            clear hA HK
            go_wp2_with fail
            go_ret
            exact HV.out
          · have d1 : decide (a.f0 < -1) = false := decide_eq_false hA
            replace HK := Go.Lib.hid (HK.out.trans (by rw [if_neg hA]))
            clear hA
            replace HK := Go.Lib.hid (show altOk x.f0 x.f4 i = if (n = 0 ∧ (a.f0 ≠ -1 ∨ (a.f1.length : Int) ≠ 1)) ∨ (0 < n ∧ (a.f0 < 0 ∨ (a.f1.length : Int) ≠ 2)) then false else true by
              rw [HK.out, HO.out]; simp)
            by_cases hB : n = 0
            · have e1 : (n == 0) = true := beq_iff_eq.2 hB
              have e2 : decide (0 < n) = false := decide_eq_false (by omega)
              have HB := Go.Lib.hid hB
              clear hB
              by_cases hC : a.f0 = -1
              · have e3 : (a.f0 == -1) = true := beq_iff_eq.2 hC
                have e4 : (a.f0 != -1) = false := by rw [bne, e3]; rfl
                by_cases hD : (a.f1.length : Int) = 1
                · have e5 : ((a.f1.length : Int) == 1) = true := beq_iff_eq.2 hD
                  have e6 : ((a.f1.length : Int) != 1) = false := by rw [bne, e5]; rfl
                  have HA3 := Go.Lib.hid (HSN.out (by rw [HK.out, if_neg (by have := HB.out; omega)]))
                  clear HK hC hD
                  go_wp2_with fail
                  go_roundg (ga - 1)
                  case measure => have := hi.out; have := HI.out; omega
                  case rel => exact ⟨i + 1, Go.Lib.hid (by have := hi.out; have := HI.out; omega), (by rw [HN1.out]), HA3, HYB⟩
                · have e5 : ((a.f1.length : Int) == 1) = false := beq_eq_false_iff_ne.2 hD
                  have e6 : ((a.f1.length : Int) != 1) = true := by rw [bne, e5]; rfl
                  have HV := Go.Lib.hid (AlP.mk (HBAD.out (by rw [HK.out, if_pos (by have := HB.out; omega)])) HYB.out.b)
                  clear HK hC hD
                  go_wp2_with fail
                  go_ret
                  exact HV.out
              · have e3 : (a.f0 == -1) = false := beq_eq_false_iff_ne.2 hC
                have e4 : (a.f0 != -1) = true := by rw [bne, e3]; rfl
                have HV := Go.Lib.hid (AlP.mk (HBAD.out (by rw [HK.out, if_pos (by have := HB.out; omega)])) HYB.out.b)
                clear HK hC
                go_wp2_with fail
                go_ret
                exact HV.out
            · have e1 : (n == 0) = false := beq_eq_false_iff_ne.2 hB
              have hn0 : 0 < n := by have := HNI.out; omega
              have e2 : decide (0 < n) = true := decide_eq_true hn0
              have HB := Go.Lib.hid hn0
              clear hB hn0
              by_cases hC : a.f0 < 0
              · have e3 : decide (a.f0 < 0) = true := decide_eq_true hC
                have HV := Go.Lib.hid (AlP.mk (HBAD.out (by rw [HK.out, if_pos (by have := HB.out; omega)])) HYB.out.b)
                clear HK hC
                go_wp2_with fail
                go_ret
                exact HV.out
              · have e3 : decide (a.f0 < 0) = false := decide_eq_false hC
                by_cases hD : (a.f1.length : Int) = 2
                · have e5 : ((a.f1.length : Int) == 2) = true := beq_iff_eq.2 hD
                  have e6 : ((a.f1.length : Int) != 2) = false := by rw [bne, e5]; rfl
                  have HA3 := Go.Lib.hid (HSN.out (by rw [HK.out, if_neg (by have := HB.out; omega)]))
                  clear HK hC hD
                  go_wp2_with fail
                  go_roundg (ga - 1)
                  case measure => have := hi.out; have := HI.out; omega
                  case rel => exact ⟨i + 1, Go.Lib.hid (by have := hi.out; have := HI.out; omega), (by rw [HN1.out]), HA3, HYB⟩
                · have e5 : ((a.f1.length : Int) == 2) = false := beq_eq_false_iff_ne.2 hD
                  have e6 : ((a.f1.length : Int) != 2) = true := by rw [bne, e5]; rfl
                  have HV := Go.Lib.hid (AlP.mk (HBAD.out (by rw [HK.out, if_pos (by have := HB.out; omega)])) HYB.out.b)
                  clear HK hC hD
                  go_wp2_with fail
                  go_ret
                  exact HV.out
    · have hd : decide (n < (x.f4.length : Int)) = false := decide_eq_false hlt
      have HE := Go.Lib.hid (alts_end (Or.inr HO.out) (by have h := hall.out; rw [List.take_of_length_le (by rw [List.length_range]; omega)] at h; exact h))
      clear hlt hall hi hn
      go_wp2_with fail
      go_ret
      refine AlP.mk ?_ hy.out.b
      rw [HE.out, HO.out]
      simp

set_option maxHeartbeats 16000000 in
set_option maxRecDepth 100000 in
theorem altsR_o (x : S28) (hx : Small x) (ho : ¬ (x.f0 = 7 ∨ x.f0 = 13)) (A2 A3 A4 : Option Addr) (c2 c3 c4 : Nat) (w : World) (h : Node w x A2 c2 A3 c3 A4 c4) :
    Calls Tryd.prog 105 #[nodeV x A2 c2 A3 c3 A4 c4] w (AlP x w) := by
  have HN := Go.Lib.hid h
  have HS := Go.Lib.hid hx
  have HY0 := Go.Lib.hid (Yx.made w x A2 A3 A4 c2 c3 c4)
  have ha9 : (x.f4.length : Int) ≤ 17592186044416 := by have := hx.a; omega
  obtain ⟨x0, x1, x2, x3, x4⟩ := HY0.out.cells
  clear h hx
  have hn7 : ¬ x.f0 = 7 := fun h => ho (Or.inl h)
  have hn13 : ¬ x.f0 = 13 := fun h => ho (Or.inr h)
  have o1 : (x.f0 == 7) = false := beq_eq_false_iff_ne.2 hn7
  have o2 : (x.f0 != 7) = true := by rw [bne, o1]; rfl
  have o3 : (x.f0 == 13) = false := beq_eq_false_iff_ne.2 hn13
  have o4 : (x.f0 != 13) = true := by rw [bne, o3]; rfl
  have HV := Go.Lib.hid (show altsB x.f0 x.f4 = ((x.f4.length : Int) == 0) by
    unfold altsB
    rw [if_neg ho, Bool.eq_iff_iff]
    simp)
  clear ho hn7 hn13
  go_enter Tryd.func105, Tryd.ntmps105
  go_wp2_with fail
  all_goals
    go_ret
    refine AlP.mk ?_ HY0.out.b
    rw [HV.out]
theorem altsR_calls (x : S28) (hx : Small x) (A2 A3 A4 : Option Addr) (c2 c3 c4 : Nat) (w : World) (h : Node w x A2 c2 A3 c3 A4 c4) : Calls Tryd.prog 105 #[nodeV x A2 c2 A3 c3 A4 c4] w (AlP x w) := by
  by_cases h7 : x.f0 = 7
  · exact altsR_7 x hx h7 A2 A3 A4 c2 c3 c4 w h
  · by_cases h13 : x.f0 = 13
    · exact altsR_13 x hx h13 A2 A3 A4 c2 c3 c4 w h
    · exact altsR_o x hx (by omega) A2 A3 A4 c2 c3 c4 w h
theorem formR_calls (t : List S28) (flat : Bool) (x : S28) (hx : Small x) (A0 A2 A3 A4 : Option Addr) (c0 c2 c3 c4 : Nat) (w : World) (hr : Kd.C k28 w A0 t.length t) (hc : t.length ≤ c0) (h : Node w x A2 c2 A3 c3 A4 c4) :
    Calls Tryd.prog 76 #[.slice A0 t.length c0, nodeV x A2 c2 A3 c3 A4 c4, .bool flat] w fun e w' => e = .returned (.bool (formB flat x)) ∧ Below w.heap.size w w' :=
  formR_calls' altsR_calls t flat x hx A0 A2 A3 A4 c0 c2 c3 c4 w h
end Go.Proofs.YtjhinklijopobaaDoor.Co
namespace Go.Proofs.YtjhinklijopobaaDoor.Co
open Go.RowKit Go.Proofs.YtjhinklijopobaaDoor.PCoreChecks Go.Proofs.YtjhinklijopobaaDoorW.PrintWords Go.Proofs.YtjhinklijopobaaDoorW.PrintLast Go.Proofs.YtjhinklijopobaaDoorW.PrintMore
set_option linter.unusedVariables false
set_option linter.unusedSimpArgs false

/-! ### What the document's checks of a node answer, as calls -/
/-! ### What a node binds -/
def bindsOf (x : S28) : List Int := (if x.f0 = 2 ∨ x.f0 = 4 ∨ x.f0 = 5 then x.f2 else []) ++ x.f4.flatMap S86.f1
/-- The parts of a node within the limits. -/
structure Fit (x : S28) : Prop where
  b : x.f2.length ≤ 16
  a : x.f4.length ≤ 4096
  ab : ∀ y ∈ x.f4, y.f1.length ≤ 16
theorem flat16 (l : List S86) (h : ∀ y ∈ l, y.f1.length ≤ 16) : (l.flatMap S86.f1).length ≤ l.length * 16 := by
  induction l with
  | nil => simp
  | cons a l ih =>
    rw [List.flatMap_cons, List.length_append, List.length_cons]
    have h1 := h a (by simp)
    have h2 := ih (fun y hy => h y (by simp [hy]))
    omega
theorem binds_l0 (al : List S86) (ha : al.length ≤ 4096) (hab : ∀ y ∈ al, y.f1.length ≤ 16) : ∀ (m i : Nat) (acc : List Int), i + m = al.length → acc.length ≤ 16 + i * 16 →
    Evs (fun k => provenanceref2_Binds.l0 k acc al (al.length : Int) (i : Int)) (acc ++ (al.drop i).flatMap S86.f1) := by
  intro m
  induction m with
  | zero =>
    intro i acc hi hacc
    rw [List.drop_of_length_le (by omega), List.flatMap_nil, List.append_nil]
    refine Evs.now fun k => ?_
    simp only [provenanceref2_Binds.l0]
    rw [if_neg (by omega)]
  | succ m ih =>
    intro i acc hi hacc
    have hi' : i < al.length := by omega
    have h16 := hab _ (List.getElem_mem hi')
    rw [List.drop_eq_getElem_cons hi', List.flatMap_cons, ← List.append_assoc]
    refine Evs.step (ih (i + 1) (acc ++ (al[i]'hi').f1) (by omega) (by rw [List.length_append]; omega)) fun k => ?_
    simp only [provenanceref2_Binds.l0]
    rw [if_pos (by omega), if_pos (by omega), if_pos (by omega), rdA_nat al i hi', if_pos (by omega), up_nat i (by omega)]
theorem binds_f (x : S28) (h : Fit x) : Evs (fun k => provenanceref2_Binds.f k x.f0 x.f1 x.f2 x.f3 x.f4) (bindsOf x) := by
  obtain ⟨op, n, bs, ks, al⟩ := x
  obtain ⟨hb, ha, hab⟩ := h
  simp only at hb ha hab ⊢
  have e1 : ∀ k (b : Bool), provenanceref2_Binds.j0 (k + 1 + 1) [] b op n bs ks al = provenanceref2_Binds.l0 k (if b = true then bs else []) al al.length 0 := by
    intro k b
    simp only [provenanceref2_Binds.j0, provenanceref2_Binds.j1]
    cases b with
    | true => rw [if_pos rfl, if_pos rfl, if_pos (by simp; omega), List.nil_append]
    | false => rw [if_neg (by decide), if_neg (by decide)]
  have e2 : ∀ k, provenanceref2_Binds.f (k + 1 + 1) op n bs ks al = provenanceref2_Binds.l0 k (if op = 2 ∨ op = 4 ∨ op = 5 then bs else []) al al.length 0 := by
    intro k
    unfold provenanceref2_Binds.f
    simp only [e1]
    by_cases h2 : op = 2
    · rw [if_pos h2, if_pos trivial, if_pos (Or.inl h2)]
    · rw [if_neg h2]
      by_cases h4 : op = 4
      · rw [if_pos h4, if_pos trivial, if_pos (Or.inr (Or.inl h4))]
      · rw [if_neg h4]
        by_cases h5 : op = 5
        · subst h5; rfl
        · rw [if_neg (by simpa using h5), if_neg (by omega)]
  have h0 := binds_l0 al ha hab al.length 0 (if op = 2 ∨ op = 4 ∨ op = 5 then bs else []) (Nat.zero_add _) (by split <;> simp; omega)
  rw [List.drop_zero] at h0
  exact Evs.step2 h0 e2
/-- Binds answers a new row. -/
theorem bindsR_calls (x : S28) (hx : Fit x) (A2 A3 A4 : Option Addr) (c2 c3 c4 : Nat) (w : World) (h : Node w x A2 c2 A3 c3 A4 c4) :
    Calls Tryd.prog 30 #[nodeV x A2 c2 A3 c3 A4 c4] w fun e w' => ∃ v : Value, e = .returned v ∧ Kd.R (Kd.int .i64) 3 w' w.heap.size (fun _ => True) v (bindsOf x) ∧ Below w.heap.size w w' := by
  obtain ⟨K, hK⟩ := binds_f x hx
  exact provenanceref2_Binds.calls K x.f0 x.f1 A2 c2 x.f2 A3 c3 x.f3 A4 c4 x.f4 _ w h.g2 h.l2 h.g3 h.l3 h.g4 h.l4 (hK K (Nat.le_refl _))
end Go.Proofs.YtjhinklijopobaaDoor.Co
namespace Go.Proofs.YtjhinklijopobaaDoor.Co
open Go.RowKit Go.Proofs.YtjhinklijopobaaDoor.PCoreChecks Go.Proofs.YtjhinklijopobaaDoorW.PrintWords Go.Proofs.YtjhinklijopobaaDoorW.PrintLast Go.Proofs.YtjhinklijopobaaDoorW.PrintMore
set_option linter.unusedVariables false
set_option linter.unusedSimpArgs false

/-! ### What good nodes are like -/
theorem form_parts {flat : Bool} {x : S28} (h : formB flat x = true) : (kidsN x.f0 x.f1 x.f2.length x.f3.length x.f4.length).1 = (x.f3.length : Int) ∧ altsB x.f0 x.f4 = true ∧ bindsB x.f0 x.f2.length = true := by
  unfold formB shapeB at h
  simp only [Bool.and_eq_true, decide_eq_true_eq] at h
  exact ⟨h.2.1, h.2.2.2.1, h.2.2.2.2⟩
theorem form_alts {flat : Bool} {x : S28} (h : formB flat x = true) (h7 : x.f0 = 7 ∨ x.f0 = 13) : x.f3.length = x.f4.length + 1 := by
  have h1 := (form_parts h).1
  unfold kidsN at h1
  rw [if_neg (by omega), if_neg (by omega), if_neg (by omega), if_neg (by omega), if_neg (by omega), if_pos h7] at h1
  simp only at h1
  omega
theorem form_none {flat : Bool} {x : S28} (h : formB flat x = true) (h7 : ¬ (x.f0 = 7 ∨ x.f0 = 13)) : x.f4 = [] := by
  have h1 := (form_parts h).2.1
  unfold altsB at h1
  rw [if_neg h7] at h1
  exact List.eq_nil_of_length_eq_zero (of_decide_eq_true h1)
theorem form_rec {flat : Bool} {x : S28} (h : formB flat x = true) (h5 : x.f0 = 5) : x.f3.length = x.f2.length + 1 := by
  have h1 := (form_parts h).1
  unfold kidsN at h1
  rw [if_neg (by omega), if_neg (by omega), if_neg (by omega), if_neg (by omega), if_pos h5] at h1
  simp only at h1
  omega
theorem count_len : ∀ (n : Nat) (l : List Int), (∀ k ∈ l, 0 ≤ k ∧ k < (n : Int)) → (∀ k : Nat, k < n → l.count (k : Int) ≤ 1) → l.length ≤ n := by
  intro n
  induction n with
  | zero =>
    intro l h _
    cases l with
    | nil => simp
    | cons a l => have := h a (by simp); omega
  | succ n ih =>
    intro l h hc
    have h1 := ih (l.filter (fun k => !decide (k = (n : Int)))) (fun k hk => by
      have h2 := List.mem_filter.1 hk
      have h3 := h k h2.1
      have h4 : k ≠ (n : Int) := by simpa using h2.2
      omega) (fun k hk => Nat.le_trans (List.Sublist.count_le _ List.filter_sublist) (hc k (by omega)))
    have h2 : l.length = l.count (n : Int) + (l.filter (fun k => !decide (k = (n : Int)))).length := by
      clear h hc h1
      induction l with
      | nil => rfl
      | cons a l ih2 =>
        by_cases e : a = (n : Int)
        · subst e; simp; omega
        · rw [List.count_cons_of_ne e, List.filter_cons_of_pos (by simpa using e)]; simp; omega
    have h3 := hc n (by omega)
    omega
theorem kids_len {t : List S28} (h : treeB t = true) {i : Nat} (hi : i < t.length) : (t[i]'hi).f3.length ≤ i := by
  obtain ⟨h0, hr, hone⟩ := treeB_parts h
  refine count_len i _ (fun k hk => badK_mem (rB_at hr i hi) hk) (fun k hk => ?_)
  have h1 := hone k (by omega)
  have e : kidsT t = (t.take i).flatMap S28.f3 ++ ((t[i]'hi).f3 ++ (t.drop (i + 1)).flatMap S28.f3) := by
    unfold kidsT
    conv => lhs; rw [← List.take_append_drop i t, List.drop_eq_getElem_cons hi]
    rw [List.flatMap_append, List.flatMap_cons]
  rw [e, List.count_append, List.count_append] at h1
  omega
theorem num_parts {x : S28} (h : numErr x = 0) : x.f2.length ≤ 16 ∧ longest x.f4 0 ≤ 16 := by
  unfold numErr at h
  split at h
  · split at h
    · split at h
      · split at h
        · omega
        · rename_i h2
          unfold largeB at h2
          simp only [Bool.or_eq_true, not_or, decide_eq_true_eq] at h2
          exact ⟨by omega, by omega⟩
      · omega
    · omega
  · omega
theorem longest_ge : ∀ (l : List S86) (m : Int), m ≤ longest l m ∧ ∀ y ∈ l, (y.f1.length : Int) ≤ longest l m
  | [], m => ⟨Int.le_refl _, fun y hy => by cases hy⟩
  | a :: l, m => by
    obtain ⟨h1, h2⟩ := longest_ge l (mx m (a.f1.length : Int))
    have e : longest (a :: l) m = longest l (mx m (a.f1.length : Int)) := rfl
    rw [e]
    have h3 : m ≤ mx m (a.f1.length : Int) ∧ (a.f1.length : Int) ≤ mx m (a.f1.length : Int) := by unfold mx; split <;> omega
    refine ⟨by omega, fun y hy => ?_⟩
    rcases List.mem_cons.1 hy with rfl | hy
    · omega
    · exact h2 y hy
theorem fit_of {t : List S28} {flat : Bool} (h : treeB t = true) (hn : t.length ≤ 4096) {x : S28} (hx : x ∈ t) (hf : formB flat x = true) (he : numErr x = 0) : Fit x := by
  obtain ⟨h1, h2⟩ := num_parts he
  obtain ⟨i, hi, rfl⟩ := List.mem_iff_getElem.1 hx
  refine ⟨h1, ?_, fun y hy => ?_⟩
  · by_cases h7 : (t[i]'hi).f0 = 7 ∨ (t[i]'hi).f0 = 13
    · have := form_alts hf h7
      have := kids_len h hi
      omega
    · rw [form_none hf h7]; simp
  · have := (longest_ge (t[i]'hi).f4 0).2 y hy
    omega
theorem rec_of {t : List S28} {flat : Bool} (h : treeB t = true) {x : S28} (hx : x ∈ t) (hf : formB flat x = true) : x.f0 = 5 → ∀ i : Nat, i < x.f2.length → (i < x.f3.length ∧ 0 ≤ rd x.f3 i ∧ rd x.f3 i < (t.length : Int)) := by
  intro h5 i hi
  have h1 := form_rec hf h5
  have hi2 : i < x.f3.length := by omega
  obtain ⟨j, hj, rfl⟩ := List.mem_iff_getElem.1 hx
  obtain ⟨h0, hr, hone⟩ := treeB_parts h
  rw [rd_nat _ i hi2]
  have := badK_mem (rB_at hr j hj) (List.getElem_mem hi2)
  exact ⟨hi2, this.1, by omega⟩
/-- The error of a node. -/
def nodeErr (flat : Bool) (t : List S28) (x : S28) : Int := if formB flat x = true then (if numErr x = 0 then (if kidsB t x = true then 0 else 3) else numErr x) else 3
/-- The first error. -/
def firstE (f : S28 → Int) : List S28 → Int
  | [] => 0
  | x :: l => if f x = 0 then firstE f l else f x
theorem firstE_drop (f : S28 → Int) (t : List S28) (i : Nat) (h : i < t.length) : firstE f (t.drop i) = if f (t[i]'h) = 0 then firstE f (t.drop (i + 1)) else f (t[i]'h) := by
  rw [List.drop_eq_getElem_cons h]; rfl
theorem firstE_all (f : S28 → Int) : ∀ t : List S28, firstE f t = 0 → ∀ x ∈ t, f x = 0
  | [], _, x, hx => by cases hx
  | a :: t, h, x, hx => by
    have e : firstE f (a :: t) = if f a = 0 then firstE f t else f a := rfl
    rw [e] at h
    split at h
    · rename_i h0
      rcases List.mem_cons.1 hx with rfl | hx
      · exact h0
      · exact firstE_all f t h x hx
    · contradiction
theorem nodeErr_ok {flat : Bool} {t : List S28} {x : S28} (h : nodeErr flat t x = 0) : formB flat x = true ∧ numErr x = 0 ∧ kidsB t x = true := by
  unfold nodeErr at h
  split at h
  · rename_i h1
    split at h
    · rename_i h2
      split at h
      · rename_i h3
        exact ⟨h1, h2, h3⟩
      · omega
    · contradiction
  · omega
/-! ### The whole check -/
def allB (params : List Int) (t : List S28) : List Int := params ++ t.flatMap bindsOf
def dupB (l : List Int) : Bool := (List.range l.length).any fun i => decide (rd l (i : Nat) ∈ l.take i)
/-- A variable that nothing binds. -/
def badName (t : List S28) (params : List Int) : Prop := ∃ (P : List Int) (i : Nat), Par t P ∧ i < t.length ∧ (rd_T28 t (i : Int)).f0 = 0 ∧ Bd t P (rd_T28 t (i : Int)).f1 i (-1) ∧ (rd_T28 t (i : Int)).f1 ∉ params
open Classical in
/-- The error of an expression with parameters. -/
noncomputable def bodyErr (t : List S28) (params : List Int) (flat : Bool) : Int :=
  if 4096 < t.length then 2 else if treeB t = true then (if 400 < heightT t then 2 else if firstE (nodeErr flat t) t = 0 then (if dupB (allB params t) = true then 7 else if badName t params then 6 else 0) else firstE (nodeErr flat t) t) else 3
/-- A tree has one row of parents. -/
theorem Par.one {t : List S28} {P Q : List Int} (h : Par t P) (h2 : Par t Q) : P = Q := by
  apply List.ext_getElem?
  intro k
  by_cases hk : k < t.length
  · by_cases e : k = t.length - 1
    · subst e; rw [h.root, h2.root]
    · obtain ⟨i, hi, a1, a2, a3⟩ := h.up k (by omega)
      obtain ⟨j, hj, b1, b2, b3⟩ := h2.up k (by omega)
      have := one_parent h.tree hi hj a3 b3
      rw [a1, b1, this]
  · rw [List.getElem?_eq_none (by rw [h.len]; omega), List.getElem?_eq_none (by rw [h2.len]; omega)]
theorem Bd.one {t : List S28} {P : List Int} {n : Int} {c : Nat} {r : Int} (h : Bd t P n c r) : ∀ s, Bd t P n c s → r = s := by
  induction h with
  | stop c hc =>
    intro s hs
    cases hs with
    | stop _ _ => rfl
    | hit _ p h2 _ => rw [hc] at h2; have := Option.some.inj h2; omega
    | up _ p _ h2 _ _ => rw [hc] at h2; have := Option.some.inj h2; omega
  | hit c p hc hh =>
    intro s hs
    cases hs with
    | stop _ h2 => rw [hc] at h2; have := Option.some.inj h2; omega
    | hit _ q h2 _ => rw [hc] at h2; exact Option.some.inj h2
    | up _ q _ h2 h3 _ =>
      rw [hc] at h2
      have e : p = q := by have := Option.some.inj h2; omega
      subst e
      rw [hh] at h3; cases h3
  | up c p r hc hh _ ih =>
    intro s hs
    cases hs with
    | stop _ h2 => rw [hc] at h2; have := Option.some.inj h2; omega
    | hit _ q h2 h3 =>
      rw [hc] at h2
      have e : p = q := by have := Option.some.inj h2; omega
      subst e
      rw [hh] at h3; cases h3
    | up _ q _ h2 h3 h4 =>
      rw [hc] at h2
      have e : p = q := by have := Option.some.inj h2; omega
      subst e
      exact ih _ h4
end Go.Proofs.YtjhinklijopobaaDoor.Co
namespace Go.Proofs.YtjhinklijopobaaDoor.Co
open Go.RowKit Go.Proofs.YtjhinklijopobaaDoor.PCoreChecks Go.Proofs.YtjhinklijopobaaDoorW.PrintWords Go.Proofs.YtjhinklijopobaaDoorW.PrintLast Go.Proofs.YtjhinklijopobaaDoorW.PrintMore
set_option linter.unusedVariables false
set_option linter.unusedSimpArgs false

theorem IA.lt {w : World} {g : Nat} {P : List Int} (h : IA w g P) : g < w.heap.size := by
  rcases Nat.lt_or_ge g w.heap.size with h2 | h2
  · exact h2
  · unfold IA at h
    rw [Array.getElem?_eq_none h2] at h
    cases h
/-- A box with a node. -/
def Bx (W : World) (g : Nat) (x : S28) (A2 : Option Addr) (c2 : Nat) (A3 : Option Addr) (c3 : Nat) (A4 : Option Addr) (c4 : Nat) : Prop := W.heap[g]? = some (.cells #[.int .i64 x.f0, .int .i64 x.f1, .slice A2 x.f2.length c2, .slice A3 x.f3.length c3, .slice A4 x.f4.length c4] 28 (0, 0))
theorem Bx.made (W : World) (x : S28) (A2 A3 A4 : Option Addr) (c2 c3 c4 : Nat) : Bx (W.alloc (.cells #[.int .i64 x.f0, .int .i64 x.f1, .slice A2 x.f2.length c2, .slice A3 x.f3.length c3, .slice A4 x.f4.length c4] 28)) W.heap.size x A2 c2 A3 c3 A4 c4 := by
  unfold Bx
  rw [blk_new]
theorem Bx.below {W W' : World} {g : Nat} {x : S28} {A2 A3 A4 : Option Addr} {c2 c3 c4 : Nat} (h : Bx W g x A2 c2 A3 c3 A4 c4) (hb : Below W.heap.size W W') : Bx W' g x A2 c2 A3 c3 A4 c4 := blk_below h hb
theorem Bx.cells {W : World} {g : Nat} {x : S28} {A2 A3 A4 : Option Addr} {c2 c3 c4 : Nat} (h : Bx W g x A2 c2 A3 c3 A4 c4) : W.cell? ⟨g, 0, none⟩ = some (.int .i64 x.f0) ∧ W.cell? ⟨g, 1, none⟩ = some (.int .i64 x.f1) ∧ W.cell? ⟨g, 2, none⟩ = some (.slice A2 x.f2.length c2) ∧ W.cell? ⟨g, 3, none⟩ = some (.slice A3 x.f3.length c3) ∧ W.cell? ⟨g, 4, none⟩ = some (.slice A4 x.f4.length c4) :=
  ⟨(blk_cell h 0).trans rfl, (blk_cell h 1).trans rfl, (blk_cell h 2).trans rfl, (blk_cell h 3).trans rfl, (blk_cell h 4).trans rfl⟩
/-- What stays in the heap through the loops. -/
structure Ke (w : World) (g : Nat) (P : List Int) (w' : World) : Prop where
  ia : IA w' g P
  b : Below w.heap.size w w'
theorem Ke.below {w : World} {g : Nat} {P : List Int} {W W' : World} (h : Ke w g P W) (hb : Below W.heap.size W W') : Ke w g P W' := ⟨h.ia.below hb, h.b.trans (hb.mono h.b.size)⟩
/-- What stands while the bound names are gathered. -/
structure Al (w : World) (g : Nat) (P : List Int) (v : Value) (l : List Int) (W : World) : Prop where
  ia : IA W g P
  b : Below w.heap.size w W
  own : W.ownsRow w.heap.size 3 1 v l.length (encs (Value.int .i64) l)
  ne : v.ownBlock ≠ some g
theorem Al.nil {w W : World} {g : Nat} {P : List Int} (h : Ke w g P W) : Al w g P (.slice none 0 0) [] W := ⟨h.ia, h.b, own_nil _ _ _ _, by simp [Value.ownBlock]⟩
theorem Al.lift {w W W' : World} {g : Nat} {P : List Int} {v : Value} {l : List Int} (h : Al w g P v l W) (hb : Below W.heap.size W W') : Al w g P v l W' := ⟨h.ia.below hb, below_step h.b hb, pw_own_below h.own hb, h.ne⟩
theorem Al.app {w W W' : World} {g : Nat} {P : List Int} {v v1 : Value} {l l1 : List Int} (h : Al w g P v l W) (ho : W'.ownsRow w.heap.size 3 1 v1 l1.length (encs (Value.int .i64) l1)) (hb : Below w.heap.size w W') (hg : W.grownBy W' v.ownBlock) (hat : v1.ownBlock = v.ownBlock ∨ ∃ b, v1.ownBlock = some b ∧ W.heap.size ≤ b) : Al w g P v1 l1 W' :=
  ⟨blk_grown h.ia hg (Ne.symm h.ne), hb, ho, by
    rcases hat with e | ⟨b, e, hle⟩
    · rw [e]; exact h.ne
    · rw [e]; intro e2; have := h.ia.lt; cases e2; omega⟩
theorem Al.reads {w W : World} {g : Nat} {P : List Int} {A : Option Addr} {c : Nat} {l : List Int} (h : Al w g P (.slice A l.length c) l W) : Kd.C (Kd.int .i64) W A l.length l :=
  Kd.C_of_reads (d := 0) (h1 := fun _ => rfl) (own_reads_of' h.own)
theorem Al.le {w W : World} {g : Nat} {P : List Int} {A : Option Addr} {c : Nat} {l : List Int} (h : Al w g P (.slice A l.length c) l W) : l.length ≤ c := by
  obtain ⟨A1, c1, e, h2, _⟩ := own_reads_of_le (d := (0 : Int)) h.own
  cases e
  exact h2
theorem bindsOf_len {x : S28} (h : Fit x) : (bindsOf x).length ≤ 65552 := by
  unfold bindsOf
  rw [List.length_append]
  have h1 := flat16 x.f4 h.ab
  have h2 := h.a
  have h3 := h.b
  split
  · omega
  · rw [List.length_nil]; omega
theorem flatB_snoc (t : List S28) (i : Nat) (h : i < t.length) : (t.take (i + 1)).flatMap bindsOf = (t.take i).flatMap bindsOf ++ bindsOf (t[i]'h) := by
  rw [List.take_succ_eq_append_getElem h, List.flatMap_append, List.flatMap_cons, List.flatMap_nil, List.append_nil]
theorem in_take (l : List Int) (i : Nat) (hi : i ≤ l.length) (A : Option Addr) (c : Nat) (n : Int) (w : World) (hC : Kd.C (Kd.int .i64) w A l.length l) :
    Calls Tryd.prog 51 #[.slice A i c, .int .i64 n] w fun e w' => e = .returned (.bool (decide (n ∈ l.take i))) ∧ w' = w := by
  have h1 : (l.take i).length = i := by rw [List.length_take]; omega
  have h2 := (Kd.reads_of_C (d := (0 : Int)) hC).take_ i hi
  have h3 := in_calls (l.take i) A c n w (by rw [h1]; exact Kd.C_of_reads (d := (0 : Int)) (h1 := fun _ => rfl) h2)
  rw [h1] at h3
  exact h3
theorem body_twice {t : List S28} {params : List Int} {flat : Bool} (h : ¬ 4096 < t.length) (h2 : treeB t = true) (h3 : ¬ 400 < heightT t) (h4 : firstE (nodeErr flat t) t = 0) (h5 : dupB (allB params t) = true) : bodyErr t params flat = 7 := by unfold bodyErr; rw [if_neg h, if_pos h2, if_neg h3, if_pos h4, if_pos h5]
theorem body_name {t : List S28} {params : List Int} {flat : Bool} (h : ¬ 4096 < t.length) (h2 : treeB t = true) (h3 : ¬ 400 < heightT t) (h4 : firstE (nodeErr flat t) t = 0) (h5 : dupB (allB params t) = false) (h6 : badName t params) : bodyErr t params flat = 6 := by unfold bodyErr; rw [if_neg h, if_pos h2, if_neg h3, if_pos h4, h5, if_neg (by decide), if_pos h6]
theorem body_ok {t : List S28} {params : List Int} {flat : Bool} (h : ¬ 4096 < t.length) (h2 : treeB t = true) (h3 : ¬ 400 < heightT t) (h4 : firstE (nodeErr flat t) t = 0) (h5 : dupB (allB params t) = false) (h6 : ¬ badName t params) : bodyErr t params flat = 0 := by unfold bodyErr; rw [if_neg h, if_pos h2, if_neg h3, if_pos h4, h5, if_neg (by decide), if_neg h6]
theorem Bd.neg {t : List S28} {P : List Int} {n : Int} {c : Nat} {r : Int} (h : Bd t P n c r) (hr : r < 0) : r = -1 := by
  induction h with
  | stop _ _ => rfl
  | hit _ p _ _ => omega
  | up _ _ _ _ _ _ ih => exact ih hr
/-- Node i is no variable that nothing binds. -/
def okName (t : List S28) (P params : List Int) (i : Nat) : Prop := (rd_T28 t (i : Int)).f0 = 0 → Bd t P (rd_T28 t (i : Int)).f1 i (-1) → (rd_T28 t (i : Int)).f1 ∈ params
theorem names_ok {t : List S28} {P params : List Int} (hP : Par t P) (h : ∀ k, k < t.length → okName t P params k) : ¬ badName t params := by
  rintro ⟨Q, i, hQ, hi, h0, hb, hn⟩
  rw [hQ.one hP] at hb
  exact hn (h i hi h0 hb)
def BoP (t : List S28) (params : List Int) (flat : Bool) (w : World) (e : Ending) (w' : World) : Prop := e = .returned (.int .i64 (bodyErr t params flat)) ∧ Below w.heap.size w w'
theorem BoP.mk {t : List S28} {params : List Int} {flat : Bool} {w w' : World} {v : Int} (h : bodyErr t params flat = v) (hb : Below w.heap.size w w') : BoP t params flat w (.returned (.int .i64 v)) w' := ⟨by rw [h], hb⟩
theorem body_large {t : List S28} {params : List Int} {flat : Bool} (h : 4096 < t.length) : bodyErr t params flat = 2 := by unfold bodyErr; rw [if_pos h]
theorem body_form {t : List S28} {params : List Int} {flat : Bool} (h : ¬ 4096 < t.length) (h2 : treeB t = false) : bodyErr t params flat = 3 := by unfold bodyErr; rw [if_neg h, h2]; rfl
theorem body_deep {t : List S28} {params : List Int} {flat : Bool} (h : ¬ 4096 < t.length) (h2 : treeB t = true) (h3 : 400 < heightT t) : bodyErr t params flat = 2 := by unfold bodyErr; rw [if_neg h, if_pos h2, if_pos h3]
theorem body_node {t : List S28} {params : List Int} {flat : Bool} (h : ¬ 4096 < t.length) (h2 : treeB t = true) (h3 : ¬ 400 < heightT t) (h4 : firstE (nodeErr flat t) t ≠ 0) : bodyErr t params flat = firstE (nodeErr flat t) t := by unfold bodyErr; rw [if_neg h, if_pos h2, if_neg h3, if_neg h4]

set_option maxHeartbeats 16000000 in
set_option maxRecDepth 100000 in
theorem bodyR_calls (t : List S28) (params : List Int) (flat : Bool) (hs : ∀ x ∈ t, Small x) (hpl : params.length ≤ 1000) (A0 Ap : Option Addr) (c0 cp : Nat) (w : World) (hr : Kd.C k28 w A0 t.length t) (hc : t.length ≤ c0) (hp : Kd.C (Kd.int .i64) w Ap params.length params) (hcp : params.length ≤ cp) :
    Calls Tryd.prog 41 #[.slice A0 t.length c0, .slice Ap params.length cp, .bool flat] w (BoP t params flat w) := by
  have HR := Go.Lib.hid hr
  have HC := Go.Lib.hid hc
  have HP := Go.Lib.hid hp
  have HCP := Go.Lib.hid hcp
  have HS := Go.Lib.hid hs
  have HPL := Go.Lib.hid hpl
  have HB := Go.Lib.hid (Below.refl w.heap.size w)
  clear hr hc hp hcp hs hpl
  by_cases hn : 4096 < t.length
  · have hd : decide ((4096 : Int) < (t.length : Int)) = true := decide_eq_true (by omega)
    have hd2 : decide (4096 < t.length) = true := decide_eq_true hn
    have HV := Go.Lib.hid (BoP.mk (body_large (params := params) (flat := flat) hn) HB.out)
    clear hn
    go_enter Tryd.func41, Tryd.ntmps41
    go_wp2_with fail
    go_ret
    exact HV.out
  have hd : decide ((4096 : Int) < (t.length : Int)) = false := decide_eq_false (by omega)
  have hd2 : decide (4096 < t.length) = false := decide_eq_false hn
  have HN := Go.Lib.hid hn
  have ht9 : (t.length : Int) ≤ 4096 := by omega
  have HPO := Go.Lib.hid (parentsOf_calls t A0 c0 w HR.out (by omega))
  clear hn
  go_enter Tryd.func41, Tryd.ntmps41
  go_wp2_with fail
  refine HPO.out.mono ?_
  rintro e w1 ⟨hb1, hcase⟩
  rcases hcase with ⟨hT, v, rfl⟩ | ⟨P, g, hPar, rfl, hIA⟩
  · have HV := Go.Lib.hid (BoP.mk (body_form (params := params) (flat := flat) HN.out hT) hb1)
    clear hT hb1
    go_wp2_with fail
    go_ret
    exact HV.out
  have HB1 := Go.Lib.hid hb1
  have HPR := Go.Lib.hid hPar
  have HIA := Go.Lib.hid hIA
  have HR1 := Go.Lib.hid (Kd.C_below HR.out hb1)
  have HDE := Go.Lib.hid (depth_calls hPar (by have := HN.out; omega) A0 c0 g w1 HR1.out HC.out hIA)
  clear hb1 hPar hIA
  go_wp2_with fail
  refine HDE.out.mono ?_
  rintro e w2 ⟨rfl, hb2⟩
  have HB2 := Go.Lib.hid (HB1.out.trans (hb2.mono HB1.out.size))
  have HIA2 := Go.Lib.hid (HIA.out.below hb2)
  clear hb2
  by_cases hdp : 400 < heightT t
  · have hd3 : decide (400 < heightT t) = true := decide_eq_true hdp
    have HV := Go.Lib.hid (BoP.mk (body_deep (params := params) (flat := flat) HN.out HPR.out.tree hdp) HB2.out)
    clear hdp
    go_wp2_with fail
    go_ret
    exact HV.out
  have hd3 : decide (400 < heightT t) = false := decide_eq_false hdp
  have HDP := Go.Lib.hid hdp
  clear hdp
  go_wp2_with fail
  have HK2 := Go.Lib.hid (show Ke w g P w2 from ⟨HIA2.out, HB2.out⟩)
  clear HIA2 HB2 HIA HB1 HR1 HDE HPO HB
  go_loopg [35] t.length (fun g_ v35 w' => ∃ i : Nat, Hid (i + g_ = t.length) ∧ v35 = .int .i64 i ∧ Hid (firstE (nodeErr flat t) t = firstE (nodeErr flat t) (t.drop i)) ∧ Hid (Ke w g P w'))
  case atStart => exact ⟨0, Go.Lib.hid (by omega), rfl, Go.Lib.hid (by rw [List.drop_zero]), HK2⟩
  case round =>
    clear HK2
    obtain ⟨i, hi, rfl, hf, hk⟩ := hrel
    obtain ⟨wo, hwo⟩ : ∃ wo : World, wo = wr := ⟨_, rfl⟩
    subst hwo
    by_cases hlt : i < t.length
    · have hlt' : (i : Int) < (t.length : Int) := by omega
      have hi0 : (0 : Int) ≤ (i : Int) := by omega
      have HI := Go.Lib.hid hlt
      obtain ⟨ad, A2, c2, A3, c3, A4, c4, e_, p0, p1, p2, p3, p4, l2, g2, l3, g3, l4, g4⟩ := at_T28 HR.out (i : Int) hi0 hlt'
      cases e_
      rw [rdT_nat t i hlt] at p0 p1 p2 p3 p4 l2 g2 l3 g3 l4 g4
      rw [Int.toNat_natCast] at p0 p1 p2 p3 p4
      replace p0 := pw_cell_below hk.out.b p0
      replace p1 := pw_cell_below hk.out.b p1
      replace p2 := pw_cell_below hk.out.b p2
      replace p3 := pw_cell_below hk.out.b p3
      replace p4 := pw_cell_below hk.out.b p4
      have HN1 := Go.Lib.hid (show Node w (t[i]'hlt) A2 c2 A3 c3 A4 c4 from ⟨l2, g2, l3, g3, l4, g4⟩)
      have HM := Go.Lib.hid (List.getElem_mem hlt)
      have HFD := Go.Lib.hid (hf.out.trans (firstE_drop (nodeErr flat t) t i hlt))
      generalize t[i]'hlt = x at p0 p1 p2 p3 p4 HN1 HM HFD
      have HX := Go.Lib.hid (Bx.made wo x A2 A3 A4 c2 c3 c4)
      have HKX := Go.Lib.hid (hk.out.below (below_alloc (Below.refl _ _) (.cells #[.int .i64 x.f0, .int .i64 x.f1, .slice A2 x.f2.length c2, .slice A3 x.f3.length c3, .slice A4 x.f4.length c4] 28)))
      have HCA := Go.Lib.hid (formR_calls t flat x (HS.out x HM.out) (some ad) A2 A3 A4 c0 c2 c3 c4 _ (Kd.C_below HR.out HKX.out.b) HC.out (HN1.out.below HKX.out.b))
      clear hlt l2 g2 l3 g3 l4 g4 hf hk
      go_wp2_with fail
      refine HCA.out.mono ?_
      rintro e w3 ⟨rfl, hb3⟩
      have HX3 := Go.Lib.hid (HX.out.below hb3)
      have HK3 := Go.Lib.hid (HKX.out.below hb3)
      obtain ⟨x0, x1, x2, x3, x4⟩ := HX3.out.cells
      clear hb3 HX HKX HCA p0 p1 p2 p3 p4
      cases hfm : formB flat x with
      | false =>
        have HE := Go.Lib.hid (show firstE (nodeErr flat t) t = 3 by rw [HFD.out]; unfold nodeErr; rw [hfm]; rfl)
        have HV := Go.Lib.hid (BoP.mk (w := w) (params := params) (body_node HN.out HPR.out.tree (by have := HDP.out; omega) (by rw [HE.out]; decide)) HK3.out.b)
        rw [HE.out] at HV
        clear hfm
        go_wp2_with fail
        go_ret
        exact HV.out
      | true =>
        have HFM := Go.Lib.hid hfm
        clear hfm
        have HCB := Go.Lib.hid (numR_calls x (HS.out x HM.out) A2 A3 A4 c2 c3 c4 w3 (HN1.out.below HK3.out.b))
        go_wp2_with fail
        refine HCB.out.mono ?_
        rintro e w4 ⟨rfl, hb4⟩
        have HX4 := Go.Lib.hid (HX3.out.below hb4)
        have HK4 := Go.Lib.hid (HK3.out.below hb4)
        clear x0 x1 x2 x3 x4
        obtain ⟨x0, x1, x2, x3, x4⟩ := HX4.out.cells
        clear hb4 HX3 HK3 HCB
        by_cases hne : numErr x = 0
        · have hb : (numErr x == 0) = true := beq_iff_eq.2 hne
          have hb1 : (numErr x != 0) = false := by simp [hne]
          have HNE := Go.Lib.hid hne
          have HCD := Go.Lib.hid (kidsR_calls t x (HS.out x HM.out) (rec_of HPR.out.tree HM.out HFM.out) (some ad) A2 A3 A4 c0 c2 c3 c4 w4 (Kd.C_below HR.out HK4.out.b) HC.out (HN1.out.below HK4.out.b))
          clear hne
          go_wp2_with fail
          refine HCD.out.mono ?_
          rintro e w5 ⟨rfl, hb5⟩
          have HK5 := Go.Lib.hid (HK4.out.below hb5)
          clear hb5 HK4 HX4 x0 x1 x2 x3 x4 HCD
          cases hkb : kidsB t x with
          | false =>
            have HE := Go.Lib.hid (show firstE (nodeErr flat t) t = 3 by rw [HFD.out]; unfold nodeErr; rw [HFM.out, HNE.out, hkb]; rfl)
            have HV := Go.Lib.hid (BoP.mk (w := w) (params := params) (body_node HN.out HPR.out.tree (by have := HDP.out; omega) (by rw [HE.out]; decide)) HK5.out.b)
            rw [HE.out] at HV
            clear hkb
            go_wp2_with fail
            go_ret
            exact HV.out
          | true =>
            have HF2 := Go.Lib.hid (show firstE (nodeErr flat t) t = firstE (nodeErr flat t) (t.drop (i + 1)) by rw [HFD.out, if_pos (by unfold nodeErr; rw [HFM.out, HNE.out, hkb]; rfl)])
            clear hkb
            go_wp2_with fail
            go_roundg (gk - 1)
            case measure => have := hi.out; have := HI.out; omega
            case rel => exact ⟨i + 1, Go.Lib.hid (by have := hi.out; have := HI.out; omega), by go_num, HF2, HK5⟩
        · have hb : (numErr x == 0) = false := beq_eq_false_iff_ne.2 hne
          have hb1 : (numErr x != 0) = true := by simp [hne]
          have HE := Go.Lib.hid (show firstE (nodeErr flat t) t = numErr x by rw [HFD.out]; unfold nodeErr; rw [HFM.out, if_pos rfl, if_neg hne, if_neg hne])
          have HV := Go.Lib.hid (BoP.mk (w := w) (params := params) (body_node HN.out HPR.out.tree (by have := HDP.out; omega) (by rw [HE.out]; exact hne)) HK4.out.b)
          rw [HE.out] at HV
          clear hne
          go_wp2_with fail
          go_ret
          exact HV.out
    · have hd : decide ((i : Int) < (t.length : Int)) = false := decide_eq_false (by omega)
      have hd2 : decide (i < t.length) = false := decide_eq_false hlt
      have HFE := Go.Lib.hid (show firstE (nodeErr flat t) t = 0 by rw [hf.out, List.drop_of_length_le (by omega)]; rfl)
      have HRP := Go.Lib.hid (Kd.reads_of_C (d := (0 : Int)) (Kd.C_below HP.out hk.out.b))
      have hpl9 : (params.length : Int) ≤ 1000 := by have := HPL.out; omega
      clear hlt hf hi
      go_wp2_with ((with_reducible refine gate_builtin (b := .append) (xs := #[.const (.slice none 0 0), .tmp 54]) rfl ?_); at_builtin; refine print_append_row_of (w0 := w) (Value.int .i64) (0 : Int) w.heap.size rfl (.const (.slice none 0 0)) (.tmp 54) 25 3 (.int .i64 0) 8 rfl Tryd.underlying25 info3 rfl (by decide) (fun _ => rfl) (.slice none 0 0) [] params Ap params.length cp rfl rfl ?q1 ?q2 ?q3 ?q4 ?q5 ?_; (case q1 => exact own_nil _ _ _ _); (case q2 => exact HRP.out); (case q3 => exact hk.out.b); (case q4 => exact hk.out.b.size); (case q5 => have q1_ := HPL.out; simp; omega); intro v1 w9 ho9 hb9 hg9 hat9; obtain ⟨A9, c9, rfl⟩ := own_slice ho9; have HAL := Go.Lib.hid ((Al.nil hk.out).app (l1 := params) ho9 hb9 hg9 hat9); clear ho9 hb9 hg9 hat9)
      clear HRP hk
      go_loopg [12, 58] t.length (fun g_ v12 v58 w' => ∃ (i : Nat) (l : List Int) (A : Option Addr) (c : Nat), Hid (i + g_ = t.length) ∧ v12 = .slice A l.length c ∧ v58 = .int .i64 i ∧ Hid (l = params ++ (t.take i).flatMap bindsOf) ∧ Hid (l.length ≤ 1000 + i * 65552) ∧ Hid (Al w g P (.slice A l.length c) l w'))
      case atStart => exact ⟨0, params, A9, c9, Go.Lib.hid (by omega), rfl, rfl, Go.Lib.hid (by simp), Go.Lib.hid (by have := HPL.out; omega), HAL⟩
      case round =>
        clear HAL
        obtain ⟨i, l, A, c, hi, rfl, rfl, hl, hll, hal⟩ := hrel
        obtain ⟨wo, hwo⟩ : ∃ wo : World, wo = wr := ⟨_, rfl⟩
        subst hwo
        by_cases hlt : i < t.length
        · have hlt' : (i : Int) < (t.length : Int) := by omega
          have hi0 : (0 : Int) ≤ (i : Int) := by omega
          have HI := Go.Lib.hid hlt
          obtain ⟨ad, A2, c2, A3, c3, A4, c4, e_, p0, p1, p2, p3, p4, l2, g2, l3, g3, l4, g4⟩ := at_T28 HR.out (i : Int) hi0 hlt'
          cases e_
          rw [rdT_nat t i hlt] at p0 p1 p2 p3 p4 l2 g2 l3 g3 l4 g4
          rw [Int.toNat_natCast] at p0 p1 p2 p3 p4
          replace p0 := pw_cell_below hal.out.b p0
          replace p1 := pw_cell_below hal.out.b p1
          replace p2 := pw_cell_below hal.out.b p2
          replace p3 := pw_cell_below hal.out.b p3
          replace p4 := pw_cell_below hal.out.b p4
          have HN1 := Go.Lib.hid (show Node w (t[i]'hlt) A2 c2 A3 c3 A4 c4 from ⟨l2, g2, l3, g3, l4, g4⟩)
          have hne := nodeErr_ok (firstE_all _ _ HFE.out _ (List.getElem_mem hlt))
          have HFT := Go.Lib.hid (fit_of HPR.out.tree (by omega) (List.getElem_mem hlt) hne.1 hne.2.1)
          have HSN := Go.Lib.hid (flatB_snoc t i hlt)
          clear hne
          generalize t[i]'hlt = x at p0 p1 p2 p3 p4 HN1 HFT HSN
          have HBL := Go.Lib.hid (bindsOf_len HFT.out)
          have HAX := Go.Lib.hid (hal.out.lift (below_alloc (Below.refl _ _) (.cells #[.int .i64 x.f0, .int .i64 x.f1, .slice A2 x.f2.length c2, .slice A3 x.f3.length c3, .slice A4 x.f4.length c4] 28)))
          have HCA := Go.Lib.hid (bindsR_calls x HFT.out A2 A3 A4 c2 c3 c4 _ (HN1.out.below HAX.out.b))
          clear hlt l2 g2 l3 g3 l4 g4 hal
          go_wp2_with fail
          refine HCA.out.mono ?_
          rintro e w3 ⟨v3, rfl, hrow, hb3⟩
          obtain ⟨A5, c5, rfl, hc5, g5⟩ := Kd.R_reads hrow
          have HRD := Go.Lib.hid (Kd.reads_of_C (d := (0 : Int)) g5)
          have HA3 := Go.Lib.hid (HAX.out.lift hb3)
          clear hrow hb3 hc5 g5 HAX HCA p0 p1 p2 p3 p4
          go_wp2_with ((with_reducible refine gate_builtin (b := .append) (xs := #[.tmp 62, .tmp 64]) rfl ?_); at_builtin; refine print_append_row_of (w0 := w) (Value.int .i64) (0 : Int) w.heap.size rfl (.tmp 62) (.tmp 64) 25 3 (.int .i64 0) 8 rfl Tryd.underlying25 info3 rfl (by decide) (fun _ => rfl) (.slice A l.length c) l (bindsOf x) A5 (bindsOf x).length c5 rfl rfl ?q1 ?q2 ?q3 ?q4 ?q5 ?_; (case q1 => exact HA3.out.own); (case q2 => exact HRD.out); (case q3 => exact HA3.out.b); (case q4 => exact HA3.out.b.size); (case q5 => have q1_ := hll.out; have q2_ := HBL.out; have q3_ := HI.out; omega); intro v1 w9 ho9 hb9 hg9 hat9; obtain ⟨A9, c9, rfl⟩ := own_slice ho9; have HA9 := Go.Lib.hid (HA3.out.app ho9 hb9 hg9 hat9); clear ho9 hb9 hg9 hat9)
          go_roundg (gk - 1)
          case measure => have := hi.out; have := HI.out; omega
          case rel => exact ⟨i + 1, l ++ bindsOf x, A9, c9, Go.Lib.hid (by have := hi.out; have := HI.out; omega), by first | rfl | simp, by go_num, Go.Lib.hid (by rw [HSN.out, ← List.append_assoc, ← hl.out]), Go.Lib.hid (by rw [List.length_append]; have := hll.out; have := HBL.out; omega), HA9⟩
        · have hd : decide ((i : Int) < (t.length : Int)) = false := decide_eq_false (by omega)
          have hd2 : decide (i < t.length) = false := decide_eq_false hlt
          have HL := Go.Lib.hid (show l = allB params t by rw [hl.out, List.take_of_length_le (by omega)]; rfl)
          have hll9 := Go.Lib.hid (show l.length ≤ 268501992 by have h1_ := hll.out; have h2_ := hi.out; omega)
          clear hlt hl hi hll
          have hl9 : (l.length : Int) ≤ 1000000000 := by have := hll9.out; omega
          have HCL := Go.Lib.hid hal.out.reads
          have hlc : l.length ≤ c := hal.out.le
          go_wp2_with fail
          go_loopg [69] l.length (fun g_ v69 w' => ∃ (j : Nat), Hid (j + g_ = l.length) ∧ v69 = .int .i64 j ∧ Hid (∀ k, k < j → ¬ rd l (k : Nat) ∈ l.take k) ∧ w' = wo)
          case atStart => exact ⟨0, Go.Lib.hid (by omega), rfl, Go.Lib.hid (by omega), rfl⟩
          case round =>
            obtain ⟨j, hj, rfl, hno, rfl⟩ := hrel
            by_cases hlt : j < l.length
            · have hlt' : (j : Int) < (l.length : Int) := by omega
              have hj0 : (0 : Int) ≤ (j : Int) := by omega
              have hjc : (j : Int) ≤ (c : Int) := by omega
              have HJ := Go.Lib.hid hlt
              obtain ⟨ad, rfl, x0⟩ := Kd.at_int HCL.out (j : Int) hj0 hlt'
              rw [Int.toNat_natCast] at x0
              have HIN := Go.Lib.hid (fun n => in_take l j (by omega) (some ad) c n wr HCL.out)
              have HDU := Go.Lib.hid (show rd l (j : Nat) ∈ l.take j → dupB l = true from fun h => by unfold dupB; rw [List.any_eq_true]; exact ⟨j, List.mem_range.2 hlt, decide_eq_true h⟩)
              generalize hy : rd l (j : Nat) = y at x0 HDU
              clear hlt
              go_wp2_with fail
              refine (HIN.out y).mono ?_
              rintro e w3 ⟨rfl, rfl⟩
              by_cases hm : y ∈ l.take j
              · have hd9 : decide (y ∈ l.take j) = true := decide_eq_true hm
                have HV := Go.Lib.hid (BoP.mk (w := w) (body_twice HN.out HPR.out.tree (by have := HDP.out; omega) HFE.out (by rw [← HL.out]; exact HDU.out hm)) hal.out.b)
                clear hm
                rw [hd9]
                go_wp2_with fail
                go_ret
                exact HV.out
              · have hd9 : decide (y ∈ l.take j) = false := decide_eq_false hm
                have HNO := Go.Lib.hid (show ∀ k, k < j + 1 → ¬ rd l (k : Nat) ∈ l.take k from fun k hk => by
                  by_cases e : k = j
                  · subst e; rw [hy]; exact hm
                  · exact hno.out k (by omega))
                clear hm
                rw [hd9]
                go_wp2_with fail
                go_roundg (gk - 1)
                case measure => have := hj.out; have := HJ.out; omega
                case rel => exact ⟨j + 1, Go.Lib.hid (by have := hj.out; have := HJ.out; omega), by go_num, HNO, rfl⟩
            · have hd : decide ((j : Int) < (l.length : Int)) = false := decide_eq_false (by omega)
              have hd2 : decide (j < l.length) = false := decide_eq_false hlt
              have HDB := Go.Lib.hid (show dupB (allB params t) = false by
                rw [← HL.out]; unfold dupB; rw [List.any_eq_false]
                intro k hk
                have hk2 := List.mem_range.1 hk
                simpa using hno.out k (by omega))
              clear hlt hno hj
              go_wp2_with fail
              go_loopg [82] t.length (fun g_ v82 w' => ∃ (i : Nat), Hid (i + g_ = t.length) ∧ v82 = .int .i64 i ∧ Hid (∀ k, k < i → okName t P params k) ∧ Hid (Ke w g P w'))
              case atStart => exact ⟨0, Go.Lib.hid (by omega), rfl, Go.Lib.hid (by omega), Go.Lib.hid ⟨hal.out.ia, hal.out.b⟩⟩
              case round =>
                clear hal
                obtain ⟨i, hi, rfl, hok, hk⟩ := hrel
                obtain ⟨wo, hwo⟩ : ∃ wo : World, wo = wr := ⟨_, rfl⟩
                subst hwo
                by_cases hlt : i < t.length
                · have hlt' : (i : Int) < (t.length : Int) := by omega
                  have hi0 : (0 : Int) ≤ (i : Int) := by omega
                  have HI := Go.Lib.hid hlt
                  obtain ⟨ad, A2, c2, A3, c3, A4, c4, e_, p0, p1, p2, p3, p4, l2, g2, l3, g3, l4, g4⟩ := at_T28 HR.out (i : Int) hi0 hlt'
                  cases e_
                  rw [Int.toNat_natCast] at p0 p1 p2 p3 p4
                  replace p0 := pw_cell_below hk.out.b p0
                  replace p1 := pw_cell_below hk.out.b p1
                  replace p2 := pw_cell_below hk.out.b p2
                  replace p3 := pw_cell_below hk.out.b p3
                  replace p4 := pw_cell_below hk.out.b p4
                  have HBI := Go.Lib.hid (fun (W : World) (hW : Kd.C k28 W (some ad) t.length t) (hA : IA W g P) => binder_calls t P HPR.out (by omega) (fun x hx h => form_alts (nodeErr_ok (firstE_all _ _ HFE.out x hx)).1 h) i hlt (some ad) c0 g W hW hA.lt hA)
                  have HOK := Go.Lib.hid (show okName t P params i → ∀ k, k < i + 1 → okName t P params k from fun h k hk => by
                    by_cases e : k = i
                    · subst e; exact h
                    · exact hok.out k (by omega))
                  have HBD := Go.Lib.hid (show (rd_T28 t (i : Int)).f0 = 0 → Bd t P (rd_T28 t (i : Int)).f1 i (-1) → (rd_T28 t (i : Int)).f1 ∉ params → badName t params from fun a b c => ⟨P, i, HPR.out, hlt, a, b, c⟩)
                  have HON := Go.Lib.hid (show ((rd_T28 t (i : Int)).f0 = 0 → Bd t P (rd_T28 t (i : Int)).f1 i (-1) → (rd_T28 t (i : Int)).f1 ∈ params) → okName t P params i from fun h => h)
                  generalize rd_T28 t (i : Int) = x at p0 p1 p2 p3 p4 l2 g2 l3 g3 l4 g4 HBI HBD HON
                  have HX := Go.Lib.hid (Bx.made wo x A2 A3 A4 c2 c3 c4)
                  have HKX := Go.Lib.hid (hk.out.below (below_alloc (Below.refl _ _) (.cells #[.int .i64 x.f0, .int .i64 x.f1, .slice A2 x.f2.length c2, .slice A3 x.f3.length c3, .slice A4 x.f4.length c4] 28)))
                  clear hlt l2 g2 l3 g3 l4 g4 hk hok
                  by_cases h0 : x.f0 = 0
                  · have hb0 : (x.f0 == 0) = true := beq_iff_eq.2 h0
                    have H0 := Go.Lib.hid h0
                    clear h0
                    have HCB := Go.Lib.hid (HBI.out _ (Kd.C_below HR.out HKX.out.b) HKX.out.ia)
                    go_wp2_with fail
                    refine HCB.out.mono ?_
                    rintro e w3 ⟨r, rfl, hbd, hb3⟩
                    have HX3 := Go.Lib.hid (HX.out.below hb3)
                    have HK3 := Go.Lib.hid (HKX.out.below hb3)
                    have HBR := Go.Lib.hid hbd
                    obtain ⟨x0, x1, x2, x3, x4⟩ := HX3.out.cells
                    clear hb3 hbd HX HKX HCB p0 p1 p2 p3 p4
                    by_cases hr0 : r < 0
                    · have hdr : decide (r < 0) = true := decide_eq_true hr0
                      have hbr := HBR.out.neg hr0
                      have HB1 := Go.Lib.hid (show Bd t P x.f1 i (-1) by rw [← hbr]; exact HBR.out)
                      have HIN := Go.Lib.hid (in_calls params Ap cp x.f1 w3 (Kd.C_below HP.out HK3.out.b))
                      clear hr0 hbr
                      go_wp2_with fail
                      refine HIN.out.mono ?_
                      rintro e w4 ⟨rfl, rfl⟩
                      by_cases hm : x.f1 ∈ params
                      · have hd9 : decide (x.f1 ∈ params) = true := decide_eq_true hm
                        have HO2 := Go.Lib.hid (HOK.out (HON.out (fun _ _ => hm)))
                        clear hm
                        rw [hd9]
                        go_wp2_with fail
                        go_roundg (gk - 1)
                        case measure => have := hi.out; have := HI.out; omega
                        case rel => exact ⟨i + 1, Go.Lib.hid (by have := hi.out; have := HI.out; omega), by go_num, HO2, HK3⟩
                      · have hd9 : decide (x.f1 ∈ params) = false := decide_eq_false hm
                        have HV := Go.Lib.hid (BoP.mk (w := w) (body_name HN.out HPR.out.tree (by have := HDP.out; omega) HFE.out HDB.out (HBD.out H0.out HB1.out hm)) HK3.out.b)
                        clear hm
                        rw [hd9]
                        go_wp2_with fail
                        go_ret
                        exact HV.out
                    · have hdr : decide (r < 0) = false := decide_eq_false hr0
                      have HO2 := Go.Lib.hid (HOK.out (HON.out (fun _ h => by have := HBR.out.one _ h; omega)))
                      clear hr0
                      go_wp2_with fail
                      go_roundg (gk - 1)
                      case measure => have := hi.out; have := HI.out; omega
                      case rel => exact ⟨i + 1, Go.Lib.hid (by have := hi.out; have := HI.out; omega), by go_num, HO2, HK3⟩
                  · have hb0 : (x.f0 == 0) = false := beq_eq_false_iff_ne.2 h0
                    have HO2 := Go.Lib.hid (HOK.out (HON.out (fun h _ => absurd h h0)))
                    clear h0
                    go_wp2_with fail
                    go_roundg (gk - 1)
                    case measure => have := hi.out; have := HI.out; omega
                    case rel => exact ⟨i + 1, Go.Lib.hid (by have := hi.out; have := HI.out; omega), by go_num, HO2, HKX⟩
                · have hd : decide ((i : Int) < (t.length : Int)) = false := decide_eq_false (by omega)
                  have hd2 : decide (i < t.length) = false := decide_eq_false hlt
                  have HV := Go.Lib.hid (BoP.mk (w := w) (body_ok HN.out HPR.out.tree (by have := HDP.out; omega) HFE.out HDB.out (names_ok HPR.out (fun k hk => hok.out k (by omega)))) hk.out.b)
                  clear hlt hi hok
                  go_wp2_with fail
                  go_ret
                  exact HV.out
end Go.Proofs.YtjhinklijopobaaDoor.Co
namespace Go.Proofs.YtjhinklijopobaaDoor.Co
open Go.RowKit Go.Proofs.YtjhinklijopobaaDoor.PCoreChecks Go.Proofs.YtjhinklijopobaaDoorW.PrintWords Go.Proofs.YtjhinklijopobaaDoorW.PrintLast Go.Proofs.YtjhinklijopobaaDoorW.PrintMore
set_option linter.unusedVariables false
set_option linter.unusedSimpArgs false

/-- A box with an alternative. -/
def Bxa (W : World) (g : Nat) (a : S86) (A : Option Addr) (c : Nat) : Prop := W.heap[g]? = some (.cells #[.int .i64 a.f0, .slice A a.f1.length c] 86 (0, 0))
theorem Bxa.cells {W : World} {g : Nat} {a : S86} {A : Option Addr} {c : Nat} (h : Bxa W g a A c) : W.cell? ⟨g, 0, none⟩ = some (.int .i64 a.f0) ∧ W.cell? ⟨g, 1, none⟩ = some (.slice A a.f1.length c) := ⟨(blk_cell h 0).trans rfl, (blk_cell h 1).trans rfl⟩
theorem Bxa.below {W W' : World} {g : Nat} {a : S86} {A : Option Addr} {c : Nat} (h : Bxa W g a A c) (hb : Below W.heap.size W W') : Bxa W' g a A c := blk_below h hb
set_option maxHeartbeats 2000000 in
theorem same_tag (b a : S86) (B A : Option Addr) (cb ca g : Nat) (w : World) (h : Bxa w g a A ca) :
    Calls Tryd.prog 136 #[.agg #[.int .i64 b.f0, .slice B b.f1.length cb], .pointer (some ⟨g, 0, none⟩)] w fun e w' => e = .returned (.bool (decide (b.f0 = a.f0))) ∧ Below w.heap.size w w' := by
  obtain ⟨p0, p1⟩ := h.cells
  have q0 := pw_cell_below (below_alloc (Below.refl w.heap.size w) (.cells #[.int .i64 b.f0, .slice B b.f1.length cb] 86)) p0
  have HB := Go.Lib.hid (below_alloc (Below.refl w.heap.size w) (.cells #[.int .i64 b.f0, .slice B b.f1.length cb] 86))
  clear h p1
  go_enter Tryd.func136, Tryd.ntmps136
  go_wp2_with fail
  go_ret
  exact ⟨by
    have e : (b.f0 == a.f0) = decide (b.f0 = a.f0) := by rw [Bool.eq_iff_iff]; simp
    rw [← e]; rfl, HB.out⟩
end Go.Proofs.YtjhinklijopobaaDoor.Co
